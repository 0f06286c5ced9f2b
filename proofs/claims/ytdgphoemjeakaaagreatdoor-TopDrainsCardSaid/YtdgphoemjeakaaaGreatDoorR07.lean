/- TopQueue: the plain law: who waits is sent as soon as a pod is ready, one behind the other. The plain law of TopDrains: each pod has in flight what flies there; each one that flies has its pod. The plain law of TopDrains: pods come and go; requests are sent, are done. The plain law of TopDrains: those that wait. The plain law of TopDrains: what holds all the time, and what each turn makes of it. A region that draws its order, walked by an invariant over what has come up. A region that draws its order, by what each operation lays: the walk for any such region. -/
import Derived.Test.YtdgphoemjeakaaaGreatDoorR06
import Derived.Test.YtdgphoemjeakaaaGreatDoorR02
namespace Go.Proofs.YtdgphoemjeakaaaGreatDoor.V
open M (Pod)
def cnt (id : Int) (rs : List Req) : Nat := (rs.filter fun r => r.st == 2 && r.pod == id).length
theorem cnt_append (id : Int) (a b : List Req) : cnt id (a ++ b) = cnt id a + cnt id b := by simp [cnt]
theorem cnt_cons (id : Int) (r : Req) (l : List Req) : cnt id (r :: l) = (if r.st == 2 && r.pod == id then 1 else 0) + cnt id l := by
  unfold cnt
  cases h : (r.st == 2 && r.pod == id) <;> simp [h, Nat.add_comm]
theorem cnt_none {id : Int} {l : List Req} (h : ∀ r, r ∈ l → r.st ≠ 2) : cnt id l = 0 := by
  unfold cnt
  rw [List.filter_eq_nil_iff.2 fun r hr => by simp [h r hr]]
  rfl
def qof (m : Nat) : Nat → List (Int × Int)
  | 0 => []
  | n + 1 => ((m : Int), 0) :: qof (m + 1) n
theorem uniq : ∀ {ps : List Pod}, (ps.map Pod.id).Nodup → ∀ {p q : Pod}, p ∈ ps → q ∈ ps → p.id = q.id → p = q
  | [], _, _, _, hp, _, _ => by cases hp
  | a :: l, hn, p, q, hp, hq, e => by
    rw [List.map_cons, List.nodup_cons] at hn
    rcases List.mem_cons.1 hp with rfl | hp'
    · rcases List.mem_cons.1 hq with rfl | hq'
      · rfl
      · exact absurd (List.mem_map.2 ⟨q, hq', e.symm⟩) hn.1
    · rcases List.mem_cons.1 hq with rfl | hq'
      · exact absurd (List.mem_map.2 ⟨p, hp', e⟩) hn.1
      · exact uniq hn.2 hp' hq' e
theorem found {ps : List Pod} (hn : (ps.map Pod.id).Nodup) {p : Pod} (hp : p ∈ ps) : ∃ k : Nat, ps.findIdx? (fun q => q.id == p.id) = some k ∧ ps[k]? = some p ∧ ps.find? (fun q => q.id == p.id) = some p := by
  cases h : ps.findIdx? (fun q => q.id == p.id) with
  | none =>
    rw [List.findIdx?_eq_none_iff] at h
    have := h p hp
    simp at this
  | some k =>
    obtain ⟨q, hq, hf, hi⟩ := find_idx h
    have := uniq hn (List.mem_of_getElem? hq) hp hi
    subst this
    exact ⟨k, rfl, hq, hf⟩
theorem busy_of {ps : List Pod} (hn : (ps.map Pod.id).Nodup) {p : Pod} (hp : p ∈ ps) : busyAt ps p.id = p.busy := by
  obtain ⟨_, _, _, hf⟩ := found hn hp
  unfold busyAt
  rw [hf]
theorem ready_cons (p : Pod) (l : List Pod) : M.ready (p :: l) = (if p.st == 2 then [p.id] else []) ++ M.ready l := by
  unfold M.ready
  cases h : p.st == 2 <;> simp [h]
theorem ready_set : ∀ (ps : List Pod) (k : Nat) (q q' : Pod), ps[k]? = some q → q'.id = q.id → q'.st = q.st → M.ready (ps.set k q') = M.ready ps
  | [], _, _, _, h, _, _ => by simp at h
  | a :: l, 0, q, q', h, hi, hs => by
    simp at h
    subst h
    rw [List.set_cons_zero, ready_cons, ready_cons, hi, hs]
  | a :: l, k + 1, q, q', h, hi, hs => by
    simp at h
    rw [List.set_cons_succ, ready_cons, ready_cons, ready_set l k q q' h hi hs]
theorem ready_mem {ps : List Pod} {id : Int} (h : id ∈ M.ready ps) : ∃ p, p ∈ ps ∧ p.st = 2 ∧ p.id = id := by
  obtain ⟨p, hp, rfl⟩ := List.mem_map.1 h
  obtain ⟨h1, h2⟩ := List.mem_filter.1 hp
  exact ⟨p, h1, by simpa using h2, rfl⟩
theorem mem_ready {ps : List Pod} {p : Pod} (h : p ∈ ps) (h2 : p.st = 2) : p.id ∈ M.ready ps := List.mem_map.2 ⟨p, List.mem_filter.2 ⟨h, by simp [h2]⟩, rfl⟩
structure Rel (ps : List Pod) (rs : List Req) : Prop where
  ids : (ps.map Pod.id).Nodup
  st : ∀ p, p ∈ ps → p.st = 1 ∨ p.st = 2
  busy : ∀ p, p ∈ ps → p.busy = cnt p.id rs
  at_ : ∀ r, r ∈ rs → r.st = 2 → ∃ p, p ∈ ps ∧ p.id = r.pod ∧ p.st = 2
theorem Rel.set {ps : List Pod} {rs rs' : List Req} (h : Rel ps rs) {k : Nat} {p : Pod} (hk : ps[k]? = some p) {b : Int} (hb : b = cnt p.id rs') (ho : ∀ id, id ≠ p.id → cnt id rs' = cnt id rs) (ha : ∀ r, r ∈ rs' → r.st = 2 → ∃ p, p ∈ ps ∧ p.id = r.pod ∧ p.st = 2) :
    Rel (ps.set k { p with busy := b }) rs' := by
  have hp := List.mem_of_getElem? hk
  have hkl := (List.getElem?_eq_some_iff.1 hk).1
  have hi : ((ps.set k { p with busy := b }).map Pod.id) = ps.map Pod.id := set_ids hk rfl
  have hn : ((ps.set k { p with busy := b }).map Pod.id).Nodup := by rw [hi]; exact h.ids
  have hm : ({ p with busy := b } : Pod) ∈ ps.set k { p with busy := b } := List.mem_set hkl _
  have key : ∀ x, x ∈ ps.set k { p with busy := b } → x = { p with busy := b } ∨ (x ∈ ps ∧ x.id ≠ p.id) := fun x hx => by
    by_cases e : x.id = p.id
    · exact .inl (uniq hn hx hm e)
    · rcases List.mem_or_eq_of_mem_set hx with hx | rfl
      · exact .inr ⟨hx, e⟩
      · exact absurd rfl e
  refine ⟨hn, fun x hx => ?_, fun x hx => ?_, fun r hr h2 => ?_⟩
  · rcases key x hx with rfl | ⟨h1, _⟩
    · exact h.st p hp
    · exact h.st x h1
  · rcases key x hx with rfl | ⟨h1, h2⟩
    · exact hb
    · rw [ho _ h2]; exact h.busy x h1
  · obtain ⟨x, hx, hxi, hxs⟩ := ha r hr h2
    have : x.id ∈ (ps.set k { p with busy := b }).map Pod.id := by rw [hi]; exact List.mem_map.2 ⟨x, hx, rfl⟩
    obtain ⟨y, hy, hyi⟩ := List.mem_map.1 this
    refine ⟨y, hy, hyi.trans hxi, ?_⟩
    rcases key y hy with rfl | ⟨h1, _⟩
    · have : x = p := uniq h.ids hx hp hyi.symm
      rw [← this]; exact hxs
    · have : y = x := uniq h.ids h1 hx hyi
      rw [this]; exact hxs
theorem Rel.enter {ps : List Pod} {F W : List Req} {x : Req} {now id : Int} (h : Rel ps (F ++ x :: W)) (hx : x.st = 1) (hid : id ∈ M.ready ps) :
    Rel (M.enter ps id).2 (F ++ { x with st := 2, since := now, pod := id } :: W) ∧ M.ready (M.enter ps id).2 = M.ready ps := by
  obtain ⟨p, hp, hs, rfl⟩ := ready_mem hid
  obtain ⟨k, h1, h2, _⟩ := found h.ids hp
  have e : (M.enter ps p.id).2 = ps.set k { p with busy := p.busy + 1 } := by
    unfold M.enter
    rw [h1]
    simp only [h2, hs]
    rfl
  rw [e]
  refine ⟨h.set h2 ?_ (fun i hi => ?_) (fun r hr h3 => ?_), ready_set _ _ _ _ h2 rfl rfl⟩
  · rw [h.busy p hp, cnt_append, cnt_cons, cnt_append, cnt_cons, hx]
    simp
    omega
  · rw [cnt_append, cnt_cons, cnt_append, cnt_cons, hx]
    simp
    intro e
    exact absurd e.symm hi
  · rcases List.mem_append.1 hr with hr | hr
    · exact h.at_ r (List.mem_append_left _ hr) h3
    · rcases List.mem_cons.1 hr with rfl | hr
      · exact ⟨p, hp, rfl, hs⟩
      · exact h.at_ r (List.mem_append_right _ (List.mem_cons_of_mem _ hr)) h3
theorem Rel.leave {ps : List Pod} {D F : List Req} {f : Req} {now : Int} (h : Rel ps (D ++ f :: F)) (hf : f.st = 2) :
    Rel (M.leave ps f.pod).2 (D ++ { f with st := 3, since := now } :: F) ∧ M.ready (M.leave ps f.pod).2 = M.ready ps := by
  obtain ⟨p, hp, hpi, hs⟩ := h.at_ f (List.mem_append_right _ List.mem_cons_self) hf
  obtain ⟨k, h1, h2, _⟩ := found h.ids hp
  have hb := h.busy p hp
  rw [cnt_append, cnt_cons, hf, hpi] at hb
  simp at hb
  have e : (M.leave ps f.pod).2 = ps.set k { p with busy := p.busy - 1 } := by
    unfold M.leave
    rw [← hpi, h1]
    simp only [h2, hs]
    rw [if_neg (by simp; omega), if_neg (by simp)]
  rw [e]
  refine ⟨h.set h2 ?_ (fun i hi => ?_) (fun r hr h3 => ?_), ready_set _ _ _ _ h2 rfl rfl⟩
  · rw [cnt_append, cnt_cons, hpi]
    simp
    omega
  · rw [cnt_append, cnt_cons, cnt_append, cnt_cons, hf]
    simp
    intro e
    exact absurd (e.symm.trans hpi.symm) hi
  · rcases List.mem_append.1 hr with hr | hr
    · exact h.at_ r (List.mem_append_left _ hr) h3
    · rcases List.mem_cons.1 hr with rfl | hr
      · exact absurd h3 (by show ¬ (3 : Int) = 2; decide)
      · exact h.at_ r (List.mem_append_right _ (List.mem_cons_of_mem _ hr)) h3
theorem least_full (bs : List Int) (m : Int) : ∀ (n : Nat), least bs m n < 0 → ∀ k, k < n → m ≤ bs.getD k 0
  | 0, _, _, h => by omega
  | n + 1, h, k, hk => by
    have hb := least_bd bs m n
    rw [least] at h
    try dsimp only at h
    split at h
    · omega
    · rename_i hc
      by_cases e : k = n
      · subst e
        by_cases hm : bs.getD k 0 < m
        · exact absurd ⟨hm, .inl h⟩ hc
        · omega
      · exact least_full bs m n h k (by omega)
theorem modify_at {α : Type} (f : α → α) : ∀ (F : List α) (x : α) (W : List α), (F ++ x :: W).modify F.length f = F ++ f x :: W
  | [], _, _ => rfl
  | a :: F, x, W => by
    rw [List.cons_append, List.length_cons, List.modify_succ_cons, modify_at f F x W]
    rfl
def full (li : Int) (ps : List Pod) : Prop := ∀ p, p ∈ ps → p.st = 2 → li ≤ p.busy
theorem sent_spec (li now : Int) : ∀ (W : List Req) (F : List Req) (ps : List Pod), (∀ r, r ∈ W → r.st = 1) → Rel ps (F ++ W) →
    ∃ (F' W' : List Req) (ps' : List Pod), F'.length + W'.length = W.length ∧ (∀ r, r ∈ F' → r.st = 2) ∧ (∀ r, r ∈ W' → r.st = 1) ∧ sentGo li now (qof F.length W.length) ps (F ++ W) = (qof (F.length + F'.length) W'.length, ps', F ++ F' ++ W') ∧ Rel ps' (F ++ F' ++ W') ∧ M.ready ps' = M.ready ps ∧ (W' = [] ∨ full li ps')
  | [], F, ps, _, hr => ⟨[], [], ps, rfl, (fun _ h => nomatch h), (fun _ h => nomatch h), by simp [qof, sentGo], by simpa using hr, rfl, .inl rfl⟩
  | x :: W, F, ps, hw, hr => by
    by_cases hk : least ((M.ready ps).map (busyAt ps)) li (M.ready ps).length < 0
    · refine ⟨[], x :: W, ps, by simp, (fun _ h => nomatch h), hw, ?_, by simpa using hr, rfl, .inr fun p hp h2 => ?_⟩
      · rw [List.length_cons, qof, sentGo]
        try dsimp only
        rw [if_pos hk]
        simp [qof]
      · obtain ⟨k, hk1, hk2⟩ := List.getElem_of_mem (mem_ready hp h2)
        have := least_full _ _ _ hk k hk1
        rw [List.getD_eq_getElem?_getD, List.getElem?_map, List.getElem?_eq_getElem hk1] at this
        simp only [Option.map_some, Option.getD_some, hk2] at this
        rw [busy_of hr.ids hp] at this
        exact this
    · have hb := least_bd ((M.ready ps).map (busyAt ps)) li (M.ready ps).length
      obtain ⟨j, hj⟩ : ∃ j : Nat, least ((M.ready ps).map (busyAt ps)) li (M.ready ps).length = j := ⟨_, (Int.toNat_of_nonneg (by omega)).symm⟩
      have hjl : j < (M.ready ps).length := by omega
      have hid : (M.ready ps).getD j 0 ∈ M.ready ps := by
        rw [List.getD_eq_getElem?_getD, List.getElem?_eq_getElem hjl]
        exact List.getElem_mem hjl
      obtain ⟨id, hide⟩ : ∃ id, (M.ready ps).getD j 0 = id := ⟨_, rfl⟩
      rw [hide] at hid
      obtain ⟨r1, r2⟩ := hr.enter (now := now) (hw x List.mem_cons_self) hid
      obtain ⟨F', W', ps', l1, s1, s2, e, r3, r4, fu⟩ := sent_spec li now W (F ++ [{ x with st := 2, since := now, pod := id }]) (M.enter ps id).2 (fun r h => hw r (List.mem_cons_of_mem _ h)) (by simpa using r1)
      refine ⟨{ x with st := 2, since := now, pod := id } :: F', W', ps', by simp; omega, fun r h => ?_, s2, ?_, by simpa using r3, r4.trans r2, fu⟩
      · rcases List.mem_cons.1 h with rfl | h
        · rfl
        · exact s1 r h
      · rw [List.length_cons, qof, sentGo]
        try dsimp only
        rw [if_neg hk, hj]
        rw [Int.toNat_natCast, hide]
        have hf : fly now id (F ++ x :: W) (F.length : Int) = F ++ [{ x with st := 2, since := now, pod := id }] ++ W := by
          unfold fly
          rw [Int.toNat_natCast, modify_at]
          simp
        rw [hf]
        have e2 : (F ++ [({ x with st := 2, since := now, pod := id } : Req)]).length = F.length + 1 := by simp
        rw [e2] at e
        rw [e, List.length_cons]
        rw [show F.length + 1 + F'.length = F.length + (F'.length + 1) by omega]
        simp
def QB (li : Int) (k d : Nat) (s : Sys) : Prop := ∃ D F W : List Req, s.rs = D ++ F ++ W ∧ D.length = d ∧ D.length + F.length + W.length = k ∧ (∀ r, r ∈ D → r.st = 3) ∧ (∀ r, r ∈ F → r.st = 2) ∧ (∀ r, r ∈ W → r.st = 1) ∧ s.q = qof (D.length + F.length) W.length ∧ Rel s.pods s.rs ∧ M.ready s.pods ≠ [] ∧ (W = [] ∨ full li s.pods)
theorem fly_skip : ∀ (D : List Req) (k : Nat) (l : List Req), (∀ r, r ∈ D → r.st = 3) → flyFrom k (D ++ l) = flyFrom (k + D.length) l
  | [], _, _, _ => rfl
  | a :: D, k, l, h => by
    rw [List.cons_append, flyFrom, h a List.mem_cons_self]
    rw [if_neg (by decide), fly_skip D (k + 1) l fun r hr => h r (List.mem_cons_of_mem _ hr), List.length_cons]
    rw [show k + 1 + D.length = k + (D.length + 1) by omega]
theorem QB.done {li : Int} {k d : Nat} {s : Sys} (h : QB li k d s) (l0 : 1 ≤ li) (F0 : ends s.rs 2 = 0) : d = k := by
  obtain ⟨D, F, W, e, hd, hl, h3, h2, h1, hq, hr, hn, hf⟩ := h
  have hF : F = [] := by
    cases F with
    | nil => rfl
    | cons f F =>
      exfalso
      have : f ∈ s.rs.filter fun r => r.st == 2 := List.mem_filter.2 ⟨by rw [e]; simp, by simp [h2 f List.mem_cons_self]⟩
      have := List.length_pos_of_mem this
      unfold ends at F0
      omega
  subst hF
  have hW : W = [] := by
    rcases hf with hf | hf
    · exact hf
    · exfalso
      obtain ⟨id, hid⟩ := List.exists_mem_of_ne_nil _ hn
      obtain ⟨p, hp, hs, _⟩ := ready_mem hid
      have h4 := hf p hp hs
      rw [hr.busy p hp, cnt_none] at h4
      · omega
      · intro r hr
        rw [e] at hr
        simp at hr
        rcases hr with hr | hr
        · rw [h3 r hr]; decide
        · rw [h1 r hr]; decide
  subst hW
  simp at hl
  omega
theorem ends_of (D F W : List Req) (h3 : ∀ r, r ∈ D → r.st = 3) (h2 : ∀ r, r ∈ F → r.st = 2) (h1 : ∀ r, r ∈ W → r.st = 1) : ends (D ++ F ++ W) 2 = F.length ∧ ends (D ++ F ++ W) 3 = D.length ∧ ends (D ++ F ++ W) 4 = 0 ∧ ends (D ++ F ++ W) 5 = 0 ∧ ends (D ++ F ++ W) 6 = 0 := by
  have A : ∀ (l : List Req) (a b : Int), (∀ r, r ∈ l → r.st = a) → (l.filter fun r => r.st == b) = if a = b then l else [] := by
    intro l a b h
    split
    · rename_i e
      exact List.filter_eq_self.2 fun r hr => by simp [h r hr, e]
    · rename_i e
      exact List.filter_eq_nil_iff.2 fun r hr => by simp [h r hr, e]
  unfold ends
  simp only [List.filter_append, A D 3 _ h3, A F 2 _ h2, A W 1 _ h1]
  simp
theorem QB.finish {li : Int} {k d : Nat} {s : Sys} (h : QB li k d s) (F0 : 0 < ends s.rs 2) : (V.finish li 0 s).1 = 0 ∧ QB li k (d + 1) (V.finish li 0 s).2 := by
  obtain ⟨D, F, W, e, hd, hl, h3, h2, h1, hq, hr, hn, hf⟩ := h
  cases F with
  | nil =>
    rw [e, (ends_of D [] W h3 h2 h1).1] at F0
    simp at F0
  | cons f F =>
    have hfl : (flying s.rs)[0]? = some (D.length : Int) := by
      unfold flying
      rw [e, List.append_assoc, fly_skip D 0 _ h3, List.cons_append, flyFrom, h2 f List.mem_cons_self]
      rw [if_pos (by decide), Nat.zero_add]
      rfl
    have hst : stand s.now 3 s.rs (D.length : Int) = (D ++ [{ f with st := 3, since := s.now }] ++ F) ++ W := by
      unfold stand
      rw [Int.toNat_natCast, e, List.append_assoc, List.cons_append, modify_at]
      simp
    have hg : s.rs.getD ((D.length : Int)).toNat ⟨0, 0, 0, 0⟩ = f := by
      rw [Int.toNat_natCast, e]
      simp [List.getD]
    have ef : V.finish li 0 s = (0, sent li { s with rs := (D ++ [{ f with st := 3, since := s.now }] ++ F) ++ W, pods := (M.leave s.pods f.pod).2 }) := by
      unfold V.finish
      rw [hfl]
      dsimp only
      rw [hg, hst]
    obtain ⟨r1, r2⟩ := Rel.leave (now := s.now) (D := D) (f := f) (F := F ++ W) (by have := hr; rw [e] at this; simpa using this) (h2 f List.mem_cons_self)
    obtain ⟨F', W', ps', l1, s1, s2, e2, r3, r4, fu⟩ := sent_spec li s.now W (D ++ [{ f with st := 3, since := s.now }] ++ F) (M.leave s.pods f.pod).2 h1 (by simpa using r1)
    rw [ef]
    refine ⟨rfl, D ++ [{ f with st := 3, since := s.now }], F ++ F', W', ?_, by simp [hd], by simp at hl ⊢; omega, fun r h => ?_, fun r h => ?_, s2, ?_, ?_, ?_, ?_⟩
    · unfold V.sent
      dsimp only
      rw [hq, show D.length + (f :: F).length = (D ++ [({ f with st := 3, since := s.now } : Req)] ++ F).length by simp, e2]
      simp
    · rcases List.mem_append.1 h with h | h
      · exact h3 r h
      · rw [List.mem_singleton.1 h]
    · rcases List.mem_append.1 h with h | h
      · exact h2 r (List.mem_cons_of_mem _ h)
      · exact s1 r h
    all_goals
      unfold V.sent
      dsimp only
      rw [hq, show D.length + (f :: F).length = (D ++ [({ f with st := 3, since := s.now } : Req)] ++ F).length by simp, e2]
    · simp
      congr 1
      omega
    · simpa using r3
    · dsimp only
      rw [r4, r2]; exact hn
    · exact fu
theorem QB.ends {li : Int} {k d : Nat} {s : Sys} (h : QB li k d s) : ends s.rs 3 = d ∧ ends s.rs 4 = 0 ∧ ends s.rs 5 = 0 ∧ ends s.rs 6 = 0 ∧ 0 ≤ ends s.rs 2 := by
  obtain ⟨D, F, W, e, hd, hl, h3, h2, h1, hq, hr, hn, hf⟩ := h
  obtain ⟨a, b, c, d', e'⟩ := ends_of D F W h3 h2 h1
  rw [e, a, b, c, d', e', hd]
  exact ⟨rfl, rfl, rfl, rfl, by omega⟩
theorem QB.stand {li : Int} {k d : Nat} {s : Sys} (h : QB li k d s) : s.rs.length = k ∧ d ≤ k ∧ (∀ i r, i < d → s.rs[i]? = some r → r.st = 3) ∧ (0 < V.ends s.rs 2 → d < k ∧ ∀ r, s.rs[d]? = some r → r.st = 2) := by
  obtain ⟨D, F, W, e, hd, hl, h3, h2, h1, hq, hr, hn, hf⟩ := h
  refine ⟨by rw [e]; simp; omega, by omega, fun i r hi hr => ?_, fun h0 => ?_⟩
  · rw [e, List.append_assoc, List.getElem?_append_left (by omega)] at hr
    exact h3 r (List.mem_of_getElem? hr)
  · rw [e, (ends_of D F W h3 h2 h1).1] at h0
    refine ⟨by omega, fun r hr => ?_⟩
    rw [e, List.append_assoc, List.getElem?_append_right (by omega), List.getElem?_append_left (by omega)] at hr
    exact h2 r (List.mem_of_getElem? hr)
end Go.Proofs.YtdgphoemjeakaaaGreatDoor.V
namespace Go.Proofs.YtdgphoemjeakaaaGreatDoor.V
open M (Pod)
def fl (id : Int) (r : Req) : Nat := if r.st == 2 && r.pod == id then 1 else 0
theorem cnt_cons' (id : Int) (r : Req) (l : List Req) : cnt id (r :: l) = fl id r + cnt id l := by rw [cnt_cons]; rfl
theorem cnt_modify (id : Int) (f : Req → Req) : ∀ (rs : List Req) (k : Nat) (r : Req), rs[k]? = some r → cnt id (rs.modify k f) + fl id r = cnt id rs + fl id (f r)
  | [], _, _, h => by simp at h
  | a :: l, 0, r, h => by
    simp at h
    subst h
    simp only [List.modify_zero_cons, cnt_cons']
    omega
  | a :: l, k + 1, r, h => by
    simp only [List.getElem?_cons_succ] at h
    have := cnt_modify id f l k r h
    simp only [List.modify_succ_cons, cnt_cons']
    omega
theorem cnt_pos {id : Int} {r : Req} : ∀ {rs : List Req}, r ∈ rs → r.st = 2 → r.pod = id → 0 < cnt id rs
  | [], h, _, _ => nomatch h
  | a :: l, h, h2, hp => by
    rw [cnt_cons']
    rcases List.mem_cons.1 h with h | h
    · subst h
      have : fl id r = 1 := by unfold fl; simp [h2, hp]
      omega
    · have := cnt_pos h h2 hp
      omega
structure Rl (ps : List Pod) (rs : List Req) : Prop where
  ids : (ps.map Pod.id).Nodup
  busy : ∀ p, p ∈ ps → p.busy = cnt p.id rs
  at_ : ∀ r, r ∈ rs → r.st = 2 → ∃ p, p ∈ ps ∧ p.id = r.pod
section
variable {ps : List Pod} {rs : List Req}
theorem Rl.erase (h : Rl ps rs) {k : Nat} {p : Pod} (hk : ps[k]? = some p) (hb : p.busy = 0) : Rl (ps.eraseIdx k) rs := by
  refine ⟨h.ids.sublist ((List.eraseIdx_sublist ps k).map _), fun q hq => h.busy q (List.mem_of_mem_eraseIdx hq), fun r hr h2 => ?_⟩
  obtain ⟨q, hq, he⟩ := h.at_ r hr h2
  refine ⟨q, ?_, he⟩
  obtain ⟨j, hj⟩ := List.getElem?_of_mem hq
  have hne : j ≠ k := fun e => by
    rw [e, hk] at hj
    have e2 := Option.some.inj hj
    have h3 := h.busy p (List.mem_of_getElem? hk)
    have h4 := cnt_pos hr h2 (by rw [← he, ← e2] : r.pod = p.id)
    omega
  have := List.mem_eraseIdx_iff_getElem?.2 ⟨j, hne, hj⟩
  exact this
theorem Rl.set (h : Rl ps rs) {k : Nat} {p p' : Pod} (hk : ps[k]? = some p) (hi : p'.id = p.id) (hb : p'.busy = p.busy) : Rl (ps.set k p') rs := by
  refine ⟨by rw [set_ids hk hi]; exact h.ids, fun q hq => ?_, fun r hr h2 => ?_⟩
  · rcases List.mem_or_eq_of_mem_set hq with hq | hq
    · exact h.busy q hq
    · rw [hq, hb, hi]; exact h.busy p (List.mem_of_getElem? hk)
  · obtain ⟨q, hq, he⟩ := h.at_ r hr h2
    have hm : q.id ∈ (ps.set k p').map Pod.id := by rw [set_ids hk hi]; exact List.mem_map.2 ⟨q, hq, rfl⟩
    obtain ⟨q', hq', he'⟩ := List.mem_map.1 hm
    exact ⟨q', hq', he'.trans he⟩
theorem Rl.map (h : Rl ps rs) (f : Pod → Pod) (hi : ∀ p, (f p).id = p.id) (hb : ∀ p, (f p).busy = p.busy) : Rl (ps.map f) rs := by
  refine ⟨by rw [List.map_map, show Pod.id ∘ f = Pod.id from funext hi]; exact h.ids, fun q hq => ?_, fun r hr h2 => ?_⟩
  · obtain ⟨p, hp, rfl⟩ := List.mem_map.1 hq
    rw [hb, hi]; exact h.busy p hp
  · obtain ⟨q, hq, he⟩ := h.at_ r hr h2
    exact ⟨f q, List.mem_map.2 ⟨q, hq, rfl⟩, (hi q).trans he⟩
theorem Rl.ripe (h : Rl ps rs) (t rd : Int) : Rl (ps.map (M.ripe t rd)) rs := h.map _ (fun p => by unfold M.ripe; split <;> rfl) (fun p => by unfold M.ripe; split <;> rfl)
end
end Go.Proofs.YtdgphoemjeakaaaGreatDoor.V
namespace Go.Proofs.YtdgphoemjeakaaaGreatDoor.V
open M (Pod)
section
variable {ps : List Pod} {rs : List Req}
theorem Rl.gone (h : Rl ps rs) (now : Int) : Rl (M.gone now ps) rs := by
  unfold M.gone
  split
  · exact h
  · rename_i q hq
    split
    · rename_i h0
      exact h.erase hq (by simpa using h0)
    · exact h.set hq rfl rfl
theorem Rl.fewer (now : Int) : ∀ (n : Nat) {ps : List Pod}, Rl ps rs → Rl (M.fewer now n ps) rs
  | 0, _, h => h
  | n + 1, _, h => Rl.fewer now n (h.gone now)
theorem Rl.more (now : Int) : ∀ (n : Nat) (ps : List Pod) (made : Int), Rl ps rs → (∀ p, p ∈ ps → p.id < made) → Rl (M.more now n (ps, made)).1 rs
  | 0, _, _, h, _ => h
  | n + 1, _, made, h, hm => by
    unfold M.more
    refine Rl.more now n _ _ ⟨?_, fun q hq => ?_, fun r hr h2 => ?_⟩ fun q hq => ?_
    · rw [List.map_append, List.nodup_append]
      refine ⟨h.ids, by simp, fun a ha b hb => ?_⟩
      obtain ⟨p, hp, rfl⟩ := List.mem_map.1 ha
      have := hm p hp
      simp at hb
      omega
    · rcases List.mem_append.1 hq with hq | hq
      · exact h.busy q hq
      · rw [List.mem_singleton.1 hq]
        show (0 : Int) = (cnt made rs : Nat)
        cases hc : cnt made rs with
        | zero => rfl
        | succ c =>
          exfalso
          have hpos : 0 < cnt made rs := by omega
          unfold cnt at hpos
          obtain ⟨r, hr⟩ := List.exists_mem_of_length_pos hpos
          obtain ⟨h1, h2⟩ := List.mem_filter.1 hr
          simp at h2
          obtain ⟨p, hp, he⟩ := h.at_ r h1 h2.1
          have := hm p hp
          omega
    · obtain ⟨p, hp, he⟩ := h.at_ r hr h2
      exact ⟨p, List.mem_append_left _ hp, he⟩
    · rcases List.mem_append.1 hq with hq | hq
      · have := hm q hq; omega
      · rw [List.mem_singleton.1 hq]; show made < made + 1; omega
theorem Rl.scale (h : Rl ps rs) (want : Nat) (now made : Int) (hm : ∀ p, p ∈ ps → p.id < made) : Rl (M.scale want now ps made).1 rs := by
  unfold M.scale
  exact Rl.fewer now _ (Rl.more now _ ps made h hm)
theorem Rl.rest (h : Rl ps rs) {k : Nat} {r : Req} (f : Req → Req) (hk : rs[k]? = some r) (h2 : r.st ≠ 2) (hf : (f r).st ≠ 2) : Rl ps (rs.modify k f) := by
  have e : ∀ id, cnt id (rs.modify k f) = cnt id rs := fun id => by
    have := cnt_modify id f rs k r hk
    have a : fl id r = 0 := by unfold fl; simp [h2]
    have b : fl id (f r) = 0 := by unfold fl; simp [hf]
    omega
  refine ⟨h.ids, fun p hp => by rw [e]; exact h.busy p hp, fun x hx hx2 => ?_⟩
  obtain ⟨j, hj⟩ := List.getElem?_of_mem hx
  rw [List.getElem?_modify] at hj
  by_cases hjk : k = j
  · subst hjk
    rw [hk] at hj
    simp at hj
    subst hj
    exact absurd hx2 hf
  · simp [hjk] at hj
    exact h.at_ x (List.mem_of_getElem? hj) hx2
theorem Rl.come (h : Rl ps rs) {r : Req} (h2 : r.st ≠ 2) : Rl ps (rs ++ [r]) := by
  have e : ∀ id, cnt id (rs ++ [r]) = cnt id rs := fun id => by
    rw [cnt_append, cnt_cons']
    have a : fl id r = 0 := by unfold fl; simp [h2]
    have b : cnt id ([] : List Req) = 0 := rfl
    omega
  refine ⟨h.ids, fun p hp => by rw [e]; exact h.busy p hp, fun x hx hx2 => ?_⟩
  rcases List.mem_append.1 hx with hx | hx
  · exact h.at_ x hx hx2
  · rw [List.mem_singleton.1 hx] at hx2
    exact absurd hx2 h2
theorem mem_set_ne {k : Nat} {p p' q : Pod} (hn : (ps.map Pod.id).Nodup) (hk : ps[k]? = some p) (hq : q ∈ ps.set k p') : q = p' ∨ (q ∈ ps ∧ q.id ≠ p.id) := by
  obtain ⟨j, hj⟩ := List.getElem?_of_mem hq
  by_cases e : k = j
  · subst e
    have hl : k < ps.length := (List.getElem?_eq_some_iff.1 hk).1
    rw [List.getElem?_set_self hl] at hj
    exact .inl (Option.some.inj hj).symm
  · rw [List.getElem?_set_ne e] at hj
    refine .inr ⟨List.mem_of_getElem? hj, fun hid => e ?_⟩
    have hl : k < (ps.map Pod.id).length := by rw [List.length_map]; exact (List.getElem?_eq_some_iff.1 hk).1
    have a1 : (ps.map Pod.id)[k]? = some p.id := by rw [List.getElem?_map, hk]; rfl
    have a2 : (ps.map Pod.id)[j]? = some p.id := by rw [List.getElem?_map, hj]; exact congrArg some hid
    exact (List.getElem?_inj hl hn).1 (a1.trans a2.symm)
theorem id_set {k : Nat} {p p' : Pod} {id : Int} (hk : ps[k]? = some p) (hi : p'.id = p.id) (h : ∃ q, q ∈ ps ∧ q.id = id) : ∃ q, q ∈ ps.set k p' ∧ q.id = id := by
  obtain ⟨q, hq, he⟩ := h
  have hm : q.id ∈ (ps.set k p').map Pod.id := by rw [set_ids hk hi]; exact List.mem_map.2 ⟨q, hq, rfl⟩
  obtain ⟨q', hq', he'⟩ := List.mem_map.1 hm
  exact ⟨q', hq', he'.trans he⟩
theorem Rl.send (h : Rl ps rs) {k : Nat} {r : Req} (now id : Int) (hk : rs[k]? = some r) (h2 : r.st ≠ 2) (hid : id ∈ M.ready ps) : Rl (M.enter ps id).2 (rs.modify k fun r => { r with st := 2, since := now, pod := id }) := by
  obtain ⟨p, hp, hs, rfl⟩ := ready_mem hid
  obtain ⟨j, f1, f2, -⟩ := found h.ids hp
  have e : ∀ i, cnt i (rs.modify k fun r => { r with st := 2, since := now, pod := p.id }) = cnt i rs + if p.id = i then 1 else 0 := fun i => by
    have := cnt_modify i (fun r => { r with st := 2, since := now, pod := p.id }) rs k r hk
    have a : fl i r = 0 := by unfold fl; simp [h2]
    have b : fl i { r with st := 2, since := now, pod := p.id } = if p.id = i then 1 else 0 := by unfold fl; simp
    omega
  have e2 : (M.enter ps p.id).2 = ps.set j { p with busy := p.busy + 1 } := by
    unfold M.enter
    rw [f1]
    dsimp only
    rw [f2]
    simp [hs]
  rw [e2]
  refine ⟨by rw [set_ids (q' := { p with busy := p.busy + 1 }) f2 rfl]; exact h.ids, fun q hq => ?_, fun x hx hx2 => ?_⟩
  · rw [e]
    rcases mem_set_ne h.ids f2 hq with rfl | ⟨hq, hne⟩
    · have := h.busy p hp
      show p.busy + 1 = ((cnt p.id rs + if p.id = p.id then 1 else 0 : Nat) : Int)
      rw [if_pos rfl]
      omega
    · rw [if_neg (fun h => hne h.symm)]
      have := h.busy q hq
      omega
  · refine id_set f2 rfl ?_
    obtain ⟨i, hi⟩ := List.getElem?_of_mem hx
    rw [List.getElem?_modify] at hi
    by_cases hki : k = i
    · subst hki
      rw [hk] at hi
      simp at hi
      subst hi
      exact ⟨p, hp, rfl⟩
    · simp [hki] at hi
      exact h.at_ x (List.mem_of_getElem? hi) hx2
theorem Rl.leave (h : Rl ps rs) {k : Nat} {r : Req} (now : Int) (hk : rs[k]? = some r) (h2 : r.st = 2) : Rl (M.leave ps r.pod).2 (rs.modify k fun r => { r with st := 3, since := now }) := by
  obtain ⟨p, hp, he⟩ := h.at_ r (List.mem_of_getElem? hk) h2
  obtain ⟨j, f1, f2, -⟩ := found h.ids hp
  have hpos := cnt_pos (List.mem_of_getElem? hk) h2 he.symm
  have hb := h.busy p hp
  have e : ∀ i, cnt i (rs.modify k fun r => { r with st := 3, since := now }) + (if p.id = i then 1 else 0) = cnt i rs := fun i => by
    have := cnt_modify i (fun r => { r with st := 3, since := now }) rs k r hk
    have a : fl i r = if p.id = i then 1 else 0 := by unfold fl; rw [h2, he]; simp
    have b : fl i { r with st := 3, since := now } = 0 := by unfold fl; simp
    omega
  have hs : Rl (ps.set j { p with busy := p.busy - 1 }) (rs.modify k fun r => { r with st := 3, since := now }) := by
    refine ⟨by rw [set_ids (q' := { p with busy := p.busy - 1 }) f2 rfl]; exact h.ids, fun q hq => ?_, fun x hx hx2 => ?_⟩
    · rcases mem_set_ne h.ids f2 hq with rfl | ⟨hq, hne⟩
      · show p.busy - 1 = ((cnt p.id (rs.modify k fun r => { r with st := 3, since := now }) : Nat) : Int)
        have := e p.id
        rw [if_pos rfl] at this
        omega
      · have := e q.id
        rw [if_neg (fun h => hne h.symm)] at this
        have := h.busy q hq
        omega
    · refine id_set f2 rfl ?_
      obtain ⟨i, hi⟩ := List.getElem?_of_mem hx
      rw [List.getElem?_modify] at hi
      by_cases hki : k = i
      · subst hki
        rw [hk] at hi
        simp at hi
        subst hi
        exact absurd hx2 (by simp)
      · simp [hki] at hi
        exact h.at_ x (List.mem_of_getElem? hi) hx2
  rw [← he]
  unfold M.leave
  rw [f1]
  dsimp only
  rw [f2]
  dsimp only
  have h0 : (p.busy == 0) = false := beq_eq_false_iff_ne.2 (by omega)
  rw [h0]
  by_cases hc : (p.busy - 1 == 0 && p.st == 3) = true
  · rw [hc]
    have hl : j < ps.length := (List.getElem?_eq_some_iff.1 f2).1
    have h1 : p.busy - 1 = 0 := by
      rw [Bool.and_eq_true, beq_iff_eq] at hc
      exact hc.1
    have := hs.erase (k := j) (p := { p with busy := p.busy - 1 }) (List.getElem?_set_self hl) h1
    rw [List.eraseIdx_set_eq] at this
    exact this
  · rw [Bool.not_eq_true] at hc
    rw [hc]
    exact hs
end
end Go.Proofs.YtdgphoemjeakaaaGreatDoor.V
namespace Go.Proofs.YtdgphoemjeakaaaGreatDoor.V
open M (Pod)
structure Qo (q : List (Int × Int)) (rs : List Req) : Prop where
  nd : (q.map Prod.fst).Nodup
  wt : ∀ x, x ∈ q → 0 ≤ x.1 ∧ ∃ r, rs[x.1.toNat]? = some r ∧ r.st = 1
section
variable {q : List (Int × Int)} {rs : List Req}
theorem Qo.other (h : Qo q rs) {k : Nat} (f : Req → Req) (hk : ∀ x, x ∈ q → x.1 ≠ k) : Qo q (rs.modify k f) := by
  refine ⟨h.nd, fun x hx => ?_⟩
  obtain ⟨h0, r, hr, h1⟩ := h.wt x hx
  refine ⟨h0, r, ?_, h1⟩
  have : k ≠ x.1.toNat := fun e => hk x hx (by omega)
  rw [List.getElem?_modify]
  simp [this, hr]
theorem Qo.tail {x : Int × Int} (h : Qo (x :: q) rs) (f : Req → Req) : Qo q (rs.modify x.1.toNat f) := by
  have hn := h.nd
  rw [List.map_cons, List.nodup_cons] at hn
  have h0 := (h.wt x (List.mem_cons_self ..)).1
  have ht : Qo q rs := ⟨hn.2, fun y hy => h.wt y (List.mem_cons_of_mem _ hy)⟩
  refine ht.other f fun y hy e => hn.1 (List.mem_map.2 ⟨y, hy, ?_⟩)
  omega
theorem Qo.push (h : Qo q rs) {r : Req} (hr : r.st = 1) (t : Int) : Qo (q ++ [((rs.length : Int), t)]) (rs ++ [r]) := by
  have lt : ∀ x, x ∈ q → x.1.toNat < rs.length := fun x hx => by
    obtain ⟨_, r, hr, _⟩ := h.wt x hx
    exact (List.getElem?_eq_some_iff.1 hr).1
  refine ⟨?_, fun x hx => ?_⟩
  · rw [List.map_append, List.nodup_append]
    refine ⟨h.nd, by simp, fun a ha b hb => ?_⟩
    obtain ⟨y, hy, rfl⟩ := List.mem_map.1 ha
    have h1 := lt y hy
    have h2 := (h.wt y hy).1
    simp at hb
    omega
  · rcases List.mem_append.1 hx with hx | hx
    · obtain ⟨h0, y, hy, h1⟩ := h.wt x hx
      exact ⟨h0, y, by rw [List.getElem?_append_left (lt x hx)]; exact hy, h1⟩
    · rw [List.mem_singleton.1 hx]
      refine ⟨Int.natCast_nonneg _, r, ?_, hr⟩
      simp
theorem Qo.more (h : Qo q rs) (r : Req) : Qo q (rs ++ [r]) :=
  ⟨h.nd, fun x hx => by
    obtain ⟨h0, y, hy, h1⟩ := h.wt x hx
    exact ⟨h0, y, by rw [List.getElem?_append_left (List.getElem?_eq_some_iff.1 hy).1]; exact hy, h1⟩⟩
theorem Qo.rest (h : Qo q rs) {k : Nat} {r : Req} (f : Req → Req) (hk : rs[k]? = some r) (h1 : r.st ≠ 1) : Qo q (rs.modify k f) :=
  h.other f fun x hx e => by
    obtain ⟨_, y, hy, h2⟩ := h.wt x hx
    rw [e, Int.toNat_natCast, hk] at hy
    rw [← Option.some.inj hy] at h2
    exact h1 h2
end
end Go.Proofs.YtdgphoemjeakaaaGreatDoor.V
namespace Go.Proofs.YtdgphoemjeakaaaGreatDoor.V
open M (Pod)
structure Pl (now made : Int) (q : List (Int × Int)) (ps : List Pod) (rs : List Req) : Prop where
  ok : SendOk 1000 now made 200 q ps rs
  rl : Rl ps rs
  qo : Qo q rs
  no6 : ∀ r, r ∈ rs → r.st ≠ 6
  now0 : 0 ≤ now
section
variable {now made : Int} {q : List (Int × Int)} {ps : List Pod} {rs : List Req}
theorem no6_modify {rs : List Req} {k : Nat} {f : Req → Req} (h : ∀ r, r ∈ rs → r.st ≠ 6) (hf : ∀ r, (f r).st ≠ 6) : ∀ r, r ∈ rs.modify k f → r.st ≠ 6 := by
  intro r hr
  rcases mem_modify hr with hr | ⟨y, _, rfl⟩
  · exact h r hr
  · exact hf y
theorem Pl.one {x : Int × Int} (h : Pl now made (x :: q) ps rs) {id : Int} (hb : busyAt ps id < 1000) (hid : id ∈ M.ready ps) : Pl now made q (M.enter ps id).2 (fly now id rs x.1) := by
  obtain ⟨_, r, hr, h1⟩ := h.qo.wt x List.mem_cons_self
  exact ⟨h.ok.one id hb, h.rl.send now id hr (by rw [h1]; decide) hid, h.qo.tail _, no6_modify h.no6 fun _ => by show ¬ (2 : Int) = 6; decide, h.now0⟩
theorem Pl.refuse (h : Pl now made q ps rs) : Pl now made q ps (rs ++ [⟨now, now, 5, -1⟩]) := by
  refine ⟨⟨h.ok.pods, ?_, h.ok.qlen, fun x hx => ?_, fun r hr => ?_⟩, h.rl.come (by show ¬ (5 : Int) = 2; decide), h.qo.more _, fun r hr => ?_, h.now0⟩
  · have := h.ok.load
    rw [List.length_append]
    omega
  · have := h.ok.qat x hx
    rw [List.length_append]
    omega
  · rcases List.mem_append.1 hr with hr | hr
    · exact h.ok.rst r hr
    · rw [List.mem_singleton.1 hr]; exact ⟨by show (0 : Int) ≤ 5; decide, by show (5 : Int) ≤ 6; decide⟩
  · rcases List.mem_append.1 hr with hr | hr
    · exact h.no6 r hr
    · rw [List.mem_singleton.1 hr]; show ¬ (5 : Int) = 6; decide
theorem Pl.push (h : Pl now made q ps rs) (hq : q.length < 200) : Pl now made (q ++ [((rs.length : Int), now)]) ps (rs ++ [⟨now, now, 1, -1⟩]) := by
  have h0 := h.now0
  refine ⟨⟨h.ok.pods, ?_, ?_, fun x hx => ?_, fun r hr => ?_⟩, h.rl.come (by show ¬ (1 : Int) = 2; decide), h.qo.push rfl now, fun r hr => ?_, h.now0⟩
  · have := h.ok.load
    simp only [List.length_append, List.length_cons, List.length_nil]
    omega
  · simp only [List.length_append, List.length_cons, List.length_nil]
    omega
  · simp only [List.length_append, List.length_cons, List.length_nil]
    rcases List.mem_append.1 hx with hx | hx
    · have := h.ok.qat x hx; omega
    · rw [List.mem_singleton.1 hx]
      exact ⟨⟨by simp only; omega, by simp only; omega⟩, h0, Int.le_refl _⟩
  · rcases List.mem_append.1 hr with hr | hr
    · exact h.ok.rst r hr
    · rw [List.mem_singleton.1 hr]; exact ⟨by show (0 : Int) ≤ 1; decide, by show (1 : Int) ≤ 6; decide⟩
  · rcases List.mem_append.1 hr with hr | hr
    · exact h.no6 r hr
    · rw [List.mem_singleton.1 hr]; show ¬ (1 : Int) = 6; decide
theorem Pl.leave (h : Pl now made q ps rs) {k : Nat} {r : Req} (hk : rs[k]? = some r) (h2 : r.st = 2) : Pl now made q (M.leave ps r.pod).2 (stand now 3 rs k) := by
  obtain ⟨h3, h4⟩ := h.ok.pods.leave r.pod
  have h5 := h.ok.load
  refine ⟨⟨h3, by rw [stand_len]; omega, h.ok.qlen, fun x hx => by rw [stand_len]; exact h.ok.qat x hx, stand_st h.ok.rst (by decide) (by decide)⟩, ?_, ?_, no6_modify h.no6 fun _ => by show ¬ (3 : Int) = 6; decide, h.now0⟩
  · unfold stand
    rw [Int.toNat_natCast]
    exact h.rl.leave now hk h2
  · unfold stand
    rw [Int.toNat_natCast]
    exact h.qo.rest _ hk (by rw [h2]; decide)
theorem Pl.later (h : Pl now made q ps rs) {now' : Int} (hn : now ≤ now') : Pl now' made q ps rs :=
  ⟨⟨h.ok.pods.later hn, h.ok.load, h.ok.qlen, fun x hx => by have := h.ok.qat x hx; omega, h.ok.rst⟩, h.rl, h.qo, h.no6, by have := h.now0; omega⟩
theorem Pl.late1 {x : Int × Int} (h : Pl now made (x :: q) ps rs) : Pl now made q ps (stand now 4 rs x.1) := by
  obtain ⟨_, r, hr, h1⟩ := h.qo.wt x List.mem_cons_self
  have h5 := h.ok.load
  have h6 := h.ok.qlen
  simp only [List.length_cons] at h5 h6
  refine ⟨⟨h.ok.pods, by rw [stand_len]; omega, by omega, fun y hy => by rw [stand_len]; exact h.ok.qat y (List.mem_cons_of_mem _ hy), stand_st h.ok.rst (by decide) (by decide)⟩, ?_, h.qo.tail _, no6_modify h.no6 fun _ => by show ¬ (4 : Int) = 6; decide, h.now0⟩
  exact h.rl.rest _ hr (by rw [h1]; decide) (by show ¬ (4 : Int) = 2; decide)
theorem Pl.late (f : Int × Int → Bool) : ∀ (q : List (Int × Int)) {rs : List Req}, Pl now made q ps rs → Pl now made (q.dropWhile f) ps ((q.takeWhile f).foldl (fun rs x => stand now 4 rs x.1) rs)
  | [], _, h => h
  | x :: q, rs, h => by
    rw [List.dropWhile_cons, List.takeWhile_cons]
    split
    · exact Pl.late f q h.late1
    · exact h
theorem Pl.ripe (h : Pl now made q ps rs) (t rd : Int) : Pl now made q (ps.map (M.ripe t rd)) rs :=
  ⟨⟨h.ok.pods.ripe t rd, by rw [load_ripe]; exact h.ok.load, h.ok.qlen, h.ok.qat, h.ok.rst⟩, h.rl.ripe t rd, h.qo, h.no6, h.now0⟩
theorem Pl.scale (h : Pl now made q ps rs) (want : Nat) (hw : want ≤ 100) (hm : made ≤ 100 * now) : Pl now (M.scale want now ps made).2 q (M.scale want now ps made).1 rs := by
  obtain ⟨h1, h2⟩ := h.ok.pods.scale h.now0 (by decide) want hw hm
  have h3 := h.ok.load
  exact ⟨⟨h1, by omega, h.ok.qlen, h.ok.qat, h.ok.rst⟩, h.rl.scale want now made fun p hp => (h.ok.pods.pod p hp).1.2, h.qo, h.no6, h.now0⟩
end
theorem Pl.new (n : Nat) (hn : n ≤ 100) : Pl 0 (M.scale n 0 [] 0).2 [] ((M.scale n 0 [] 0).1.map (M.ripe 0 0)) [] := by
  have h : Pl 0 0 [] [] [] := ⟨⟨⟨by decide, List.nodup_nil, (fun p hp => nomatch hp), by decide, by decide⟩, by decide, by decide, (fun x hx => nomatch hx), fun r hr => nomatch hr⟩, ⟨List.nodup_nil, (fun p hp => nomatch hp), fun r hr => nomatch hr⟩, ⟨List.nodup_nil, fun x hx => nomatch hx⟩, (fun r hr => nomatch hr), by decide⟩
  exact (h.scale n hn (by decide)).ripe 0 0
end Go.Proofs.YtdgphoemjeakaaaGreatDoor.V
namespace Go.Proofs.YtdgphoemjeakaaaGreatDoor.W
open Go.RowKit K P
section
variable {P : Program} {ops : Array Oper} {Q : Exit → Act → World → Prop} {md : Region.Mode}
theorem all_listed (hac : ∀ (i : Nat) o, ops[i]? = some o → ∀ e ∈ o.after, Region.binds md e = true → e.on < i) {listed : Array Bool} (hs : listed.size = ops.size)
    (hr : Region.ready md ops listed = []) : ∀ n i, i < n → i < ops.size → listed.getD i false = true := by
  intro n
  induction n with
  | zero => intro i h; omega
  | succ n ih =>
    intro i h hi
    by_cases hl : listed.getD i false = true
    · exact hl
    · have hm : i ∈ Region.ready md ops listed := by
        rw [mem_ready]
        refine ⟨?_, ops[i], Array.getElem?_eq_getElem hi, fun e he hb => ?_⟩
        · have h2 : i < listed.size := by omega
          simp only [Array.getD, h2, dif_pos] at hl ⊢
          simpa using hl
        · have h3 := hac i _ (Array.getElem?_eq_getElem hi) e he hb
          exact ih e.on (by omega) (by omega)
      rw [hr] at hm; cases hm
theorem wpAny_inv (I : (Nat → Bool) → Act → World → Prop)
    (hac : ∀ (i : Nat) o, ops[i]? = some o → ∀ e ∈ o.after, Region.binds md e = true → e.on < i)
    (hstep : ∀ (L : Nat → Bool) (i : Nat) (o : Oper) (a : Act) (w : World), ops[i]? = some o → L i = false → (∀ e ∈ o.after, Region.binds md e = true → L e.on = true) → I L a w →
      wpOp P ops Q i (I (fun j => j == i || L j)) a w)
    (hend : ∀ (L : Nat → Bool) a w, (∀ i, i < ops.size → L i = true) → I L a w → Q .normal a w) :
    ∀ (fuel : Nat) (listed : Array Bool) (a : Act) (w : World), listed.size = ops.size → listed.toList.count false ≤ fuel → I (fun j => listed.getD j false) a w → wpAny P md ops Q fuel listed a w := by
  intro fuel
  induction fuel with
  | zero =>
    intro listed a w hs hc hI
    have hr : Region.ready md ops listed = [] := by
      cases hr : Region.ready md ops listed with
      | nil => rfl
      | cons x xs =>
        have hm : x ∈ Region.ready md ops listed := by rw [hr]; exact List.mem_cons_self
        have h0 := (mem_ready.1 hm).1
        have hx : x < listed.size := by
          rcases Nat.lt_or_ge x listed.size with h | h
          · exact h
          · simp [Array.getD, Nat.not_lt.2 h] at h0
        have : false ∈ listed.toList := by
          simp only [Array.getD, hx, dif_pos] at h0
          rw [← h0]; simp
        have := List.count_pos_iff.2 this
        omega
    exact ⟨hr, hend _ _ _ (fun i hi => all_listed hac hs hr (i + 1) i (by omega) hi) hI⟩
  | succ fuel ih =>
    intro listed a w hs hc hI
    refine ⟨fun hr => hend _ _ _ (fun i hi => all_listed hac hs hr (i + 1) i (by omega) hi) hI, fun i hi => ?_⟩
    obtain ⟨h0, o, ho, hall⟩ := mem_ready.1 hi
    have hx : i < listed.size := by
      rcases Nat.lt_or_ge i listed.size with h | h
      · exact h
      · simp [Array.getD, Nat.not_lt.2 h] at h0
    have h1 : listed.getD i false = false := by
      simp only [Array.getD, hx, dif_pos] at h0 ⊢; exact h0
    have hget : listed.toList[i] = false := by
      simp only [Array.getD, hx, dif_pos] at h0; simpa using h0
    refine wpOp_mono (fun a' w' h => ih _ _ _ (by simpa using hs) ?_ ?_) (hstep _ i o a w ho h1 (fun e he hb => hall e he hb) hI)
    · rw [Array.toList_setIfInBounds, List.count_set (by simpa using hx)]
      have hp : 0 < listed.toList.count false := List.count_pos_iff.2 (hget ▸ List.getElem_mem _)
      have e1 : (false == false) = true := rfl
      have e2 : (true == false) = false := rfl
      simp only [hget, e1, e2, if_true, Bool.false_eq_true, if_false]
      omega
    · have : (fun j => (listed.setIfInBounds i true).getD j false) = (fun j => j == i || listed.getD j false) := by
        funext j
        by_cases hj : i = j
        · subst hj; simp [hx]
        · rw [getD_set_ne false hj]; simp [Ne.symm hj]
      rw [this]; exact h
end
def regs : Code → List (Nat × Array Oper)
  | .region id ops _ => [(id, ops)]
  | .seq a b => regs a ++ regs b
  | .cond _ a b => regs a ++ regs b
  | .block _ b => regs b
  | .loop b => regs b
  | .scope b => regs b
  | _ => []
noncomputable def opsW : Array Oper := (((regs (Tryz.f39.body.getD .skip)).find? (·.1 == 4)).map (·.2)).getD #[]
def acyc (ops : Array Oper) : Bool := (List.range ops.size).all fun i => ((ops[i]?).map fun o => o.after.all fun e => decide (e.on < i)).getD true
theorem acyc_spec {ops : Array Oper} {md : Region.Mode} (h : acyc ops = true) : ∀ (i : Nat) o, ops[i]? = some o → ∀ e ∈ o.after, Region.binds md e = true → e.on < i := by
  intro i o ho e he _
  unfold acyc at h
  rw [List.all_eq_true] at h
  have h1 := h i (List.mem_range.2 (Array.getElem?_eq_some_iff.1 ho).1)
  simp only [ho, Option.map_some, Option.getD_some] at h1
  rw [Array.all_eq_true_iff_forall_mem] at h1
  exact of_decide_eq_true (h1 e he)
def dep (ops : Array Oper) (i k : Nat) : Bool := ((ops[i]?).map fun o => o.after.any fun e => Region.binds .any e && e.on == k).getD false
theorem dep_spec {ops : Array Oper} {L : Nat → Bool} {i : Nat} {o : Oper} (ho : ops[i]? = some o) (h : ∀ e ∈ o.after, Region.binds .any e = true → L e.on = true) {k : Nat} (hk : dep ops i k = true) : L k = true := by
  unfold dep at hk
  simp only [ho, Option.map_some, Option.getD_some] at hk
  rw [Array.any_eq_true'] at hk
  obtain ⟨e, he, hb⟩ := hk
  simp only [Bool.and_eq_true, beq_iff_eq] at hb
  exact hb.2 ▸ h e he hb.1
end Go.Proofs.YtdgphoemjeakaaaGreatDoor.W
namespace Go.Proofs.YtdgphoemjeakaaaGreatDoor.Rg
open Go.RowKit K W
abbrev Lay := List (Option Tmp × Value)
def puts : Lay → Array Value → Array Value
  | [], t => t
  | (some d, v) :: l, t => puts l (t.setIfInBounds d v)
  | (none, _) :: l, t => puts l t
def dsts (l : Lay) : List Tmp := l.filterMap Prod.fst
structure RInv (ops : Array Oper) (l : Lay) (t0 : Array Value) (Wd : (Nat → Bool) → World → Prop) (L : Nat → Bool) (a : Act) (w : World) : Prop where
  ds : a.defers = []
  sz : a.tmps.size = t0.size
  lb : ∀ k, l.length ≤ k → L k = false
  got : ∀ i d v, l[i]? = some (some d, v) → L i = true → a.tmps[d]? = some v
  off : ∀ j, (∀ i v, l[i]? = some (some j, v) → L i = false) → a.tmps[j]? = t0[j]?
  cl : ∀ (i : Nat) o, ops[i]? = some o → L i = true → ∀ e ∈ o.after, Region.binds .any e = true → L e.on = true
  wd : Wd L w
theorem nodup_at {l : Lay} (hn : (dsts l).Nodup) : ∀ {i j : Nat} {d : Tmp} {v v' : Value}, l[i]? = some (some d, v) → l[j]? = some (some d, v') → i = j := by
  induction l with
  | nil => intro i j d v v' h; simp at h
  | cons x l ih =>
    intro i j d v v' hi hj
    have hmem : ∀ (k : Nat) (u : Value), l[k]? = some (some d, u) → d ∈ dsts l := fun k u h => List.mem_filterMap.2 ⟨_, List.mem_of_getElem? h, rfl⟩
    cases x with
    | mk o u =>
      cases o with
      | none =>
        have hn' : (dsts l).Nodup := hn
        cases i with
        | zero => simp at hi
        | succ i => cases j with
          | zero => simp at hj
          | succ j => exact congrArg (· + 1) (ih hn' (by simpa using hi) (by simpa using hj))
      | some e =>
        have hn1 : (e :: dsts l).Nodup := hn
        obtain ⟨hne, hn'⟩ := List.nodup_cons.1 hn1
        cases i with
        | zero =>
          cases j with
          | zero => rfl
          | succ j =>
            simp at hi hj
            exact absurd (hmem j v' hj) (hi.1 ▸ hne)
        | succ i =>
          cases j with
          | zero =>
            simp at hi hj
            exact absurd (hmem i v hi) (hj.1 ▸ hne)
          | succ j => exact congrArg (· + 1) (ih hn' (by simpa using hi) (by simpa using hj))
section
variable {ops : Array Oper} {l : Lay} {t0 : Array Value} {Wd : (Nat → Bool) → World → Prop} {L : Nat → Bool} {a : Act} {w w' : World}
theorem RInv.at (h : RInv ops l t0 Wd L a w) (i : Nat) {d : Tmp} {v : Value} (hi : l[i]? = some (some d, v)) (hL : L i = true) : a.tmps[d]? = some v := h.got i d v hi hL
theorem RInv.from (h : RInv ops l t0 Wd L a w) {j : Tmp} {v : Value} (ht : t0[j]? = some v) (hj : (dsts l).contains j = false) : a.tmps[j]? = some v := by
  rw [h.off j fun i v hi => ?_]
  · exact ht
  · exfalso
    have : j ∈ dsts l := List.mem_filterMap.2 ⟨_, List.mem_of_getElem? hi, rfl⟩
    rw [List.contains_iff_mem.2 this] at hj
    cases hj
theorem RInv.tr (h : RInv ops l t0 Wd L a w) {j k : Nat} (hj : L j = true) (hd : dep ops j k = true) : L k = true := by
  cases ho : ops[j]? with
  | none => unfold dep at hd; rw [ho] at hd; cases hd
  | some o => exact dep_spec ho (fun e he hb => h.cl j o ho hj e he hb) hd
theorem RInv.put (h : RInv ops l t0 Wd L a w) (hn : (dsts l).Nodup) (i : Nat) {o : Oper} (ho : ops[i]? = some o) (hdep : ∀ e ∈ o.after, Region.binds .any e = true → L e.on = true) (d : Option Tmp) (v u : Value) (hi : l[i]? = some (d, u)) (hv : d = none ∨ v = u) (hd : ∀ e, d = some e → e < t0.size) (hw : Wd (fun j => j == i || L j) w') :
    RInv ops l t0 Wd (fun j => j == i || L j) (a.put d v) w' := by
  have hil := (List.getElem?_eq_some_iff.1 hi).1
  have hlb : ∀ k, l.length ≤ k → (k == i || L k) = false := fun k hk => by
    have : (k == i) = false := beq_eq_false_iff_ne.2 (by omega)
    rw [this, Bool.false_or]; exact h.lb k hk
  have hcl : ∀ (k : Nat) o', ops[k]? = some o' → (k == i || L k) = true → ∀ e ∈ o'.after, Region.binds .any e = true → (e.on == i || L e.on) = true := fun k o' ho' hk e he hb => by
    rw [Bool.or_eq_true]
    right
    by_cases hki : k = i
    · subst hki
      obtain rfl : o = o' := Option.some.inj (ho.symm.trans ho')
      exact hdep e he hb
    · have : (k == i) = false := beq_eq_false_iff_ne.2 hki
      rw [this, Bool.false_or] at hk
      exact h.cl k o' ho' hk e he hb
  cases d with
  | none =>
    refine ⟨h.ds, h.sz, hlb, fun k d v hk hL => ?_, fun j hj => h.off j fun k v hk => ?_, hcl, hw⟩
    · refine h.got k d v hk ?_
      by_cases hki : k = i
      · subst hki; rw [hi] at hk; cases hk
      · have : (k == i) = false := beq_eq_false_iff_ne.2 hki
        rwa [this, Bool.false_or] at hL
    · have := hj k v hk
      exact (Bool.or_eq_false_iff.1 this).2
  | some e =>
    obtain rfl : v = u := hv.resolve_left (by simp)
    have he := hd e rfl
    refine ⟨h.ds, ?_, hlb, fun k d v' hk hL => ?_, fun j hj => ?_, hcl, hw⟩
    · show (a.tmps.setIfInBounds _ _).size = _
      rw [Array.size_setIfInBounds, h.sz]
    · show (a.tmps.setIfInBounds e v)[d]? = _
      by_cases hki : k = i
      · subst hki
        rw [hi] at hk
        cases hk
        rw [Array.getElem?_setIfInBounds_self_of_lt (by rw [h.sz]; exact he)]
      · have hde : e ≠ d := fun hed => hki (by subst hed; exact nodup_at hn hk hi)
        rw [Array.getElem?_setIfInBounds_ne hde]
        have : (k == i) = false := beq_eq_false_iff_ne.2 hki
        rw [this, Bool.false_or] at hL
        exact h.got k d v' hk hL
    · show (a.tmps.setIfInBounds e v)[j]? = _
      have hej : e ≠ j := fun hej => by
        have := hj i v (hej ▸ hi)
        simp at this
      rw [Array.getElem?_setIfInBounds_ne hej]
      exact h.off j fun k v' hk => (Bool.or_eq_false_iff.1 (hj k v' hk)).2
end
theorem puts_off : ∀ (l : Lay) (t : Array Value) (j : Tmp), (∀ (i : Nat) (v : Value), l[i]? ≠ some (some j, v)) → (puts l t)[j]? = t[j]?
  | [], _, _, _ => rfl
  | (some d, v) :: l, t, j, h => by
    rw [puts, puts_off l _ j fun i u => h (i + 1) u, Array.getElem?_setIfInBounds_ne]
    intro hd
    exact h 0 v (by simp [hd])
  | (none, _) :: l, t, j, h => by rw [puts, puts_off l _ j fun i u => h (i + 1) u]
theorem puts_at : ∀ (l : Lay) (t : Array Value), (dsts l).Nodup → ∀ (i : Nat) (d : Tmp) (v : Value), l[i]? = some (some d, v) → d < t.size → (puts l t)[d]? = some v
  | [], _, _, i, d, v, h, _ => by simp at h
  | (some e, u) :: l, t, hn, i, d, v, h, hd => by
    rw [puts]
    cases i with
    | zero =>
      simp at h
      obtain ⟨rfl, rfl⟩ := h
      rw [puts_off l _ e fun i v' hi => ?_]
      · rw [Array.getElem?_setIfInBounds_self_of_lt hd]
      · have h1 : ((some e, u) :: l)[i + 1]? = some (some e, v') := hi
        have := nodup_at hn h1 (show ((some e, u) :: l)[0]? = some (some e, u) from rfl)
        omega
    | succ i =>
      have hn1 : (e :: dsts l).Nodup := hn
      exact puts_at l _ (List.nodup_cons.1 hn1).2 i d v (by simpa using h) (by rw [Array.size_setIfInBounds]; exact hd)
  | (none, _) :: l, t, hn, i, d, v, h, hd => by
    rw [puts]
    cases i with
    | zero => simp at h
    | succ i => exact puts_at l _ hn i d v (by simpa using h) hd
theorem RInv.all {ops : Array Oper} {l : Lay} {t0 : Array Value} {Wd : (Nat → Bool) → World → Prop} {L : Nat → Bool} {a : Act} {w : World} (h : RInv ops l t0 Wd L a w) (hn : (dsts l).Nodup) (hb : (dsts l).all (fun d => decide (d < t0.size)) = true) (hl : ∀ i, i < l.length → L i = true) : a = ⟨puts l t0, []⟩ := by
  obtain ⟨tm, df⟩ := a
  have h1 : df = [] := h.ds
  have h2 : tm = puts l t0 := by
    apply Array.ext_getElem?
    intro j
    by_cases hj : ∃ (i : Nat) (v : Value), l[i]? = some (some j, v)
    · obtain ⟨i, v, hi⟩ := hj
      have hm : j ∈ dsts l := List.mem_filterMap.2 ⟨_, List.mem_of_getElem? hi, rfl⟩
      rw [puts_at l t0 hn i j v hi (of_decide_eq_true (List.all_eq_true.1 hb j hm))]
      exact h.got i j v hi (hl i (List.getElem?_eq_some_iff.1 hi).1)
    · have hj' : ∀ (i : Nat) (v : Value), l[i]? ≠ some (some j, v) := fun i v hi => hj ⟨i, v, hi⟩
      rw [puts_off l t0 j hj']
      exact h.off j fun i v hi => absurd hi (hj' i v)
  rw [h1, h2]
def RStep (P : Program) (ops : Array Oper) (l : Lay) (t0 : Array Value) (Wd : (Nat → Bool) → World → Prop) (Q : Exit → Act → World → Prop) (i : Nat) : Prop :=
  ∀ (L : Nat → Bool) (o : Oper) (a : Act) (w : World), ops[i]? = some o → L i = false → (∀ e ∈ o.after, Region.binds .any e = true → L e.on = true) → RInv ops l t0 Wd L a w → wpOp P ops Q i (RInv ops l t0 Wd (fun j => j == i || L j)) a w
theorem wp_reg {P : Program} {id : Nat} {ops : Array Oper} {Q : Exit → Act → World → Prop} {l : Lay} {t0 : Array Value} {Wd : (Nat → Bool) → World → Prop} {w : World} (hm : P.follows .mixedOrders = true) (hac : acyc ops = true) (hsz : ops.size = l.length) (hn : (dsts l).Nodup) (hb : (dsts l).all (fun d => decide (d < t0.size)) = true)
    (start : Wd (fun _ => false) w.drew) (step : ∀ i, i < l.length → RStep P ops l t0 Wd Q i) (fin : ∀ L w', (∀ i, i < l.length → L i = true) → Wd L w' → Q .normal ⟨puts l t0, []⟩ w') : (Code.region id ops true).wp P Q ⟨t0, []⟩ w := by
  refine wp_region_any hm (wpAny_inv (ops := ops) (RInv ops l t0 Wd) (acyc_spec hac) (fun L i o a w ho hL hd hI => step i ?_ L o a w ho hL hd hI) (fun L a w hl hI => ?_) _ _ _ _ ?_ ?_ ?_)
  · have := (Array.getElem?_eq_some_iff.1 ho).1
    omega
  · have hl' : ∀ i, i < l.length → L i = true := fun i hi => hl i (by omega)
    rw [hI.all hn hb hl']
    exact fin L w hl' hI.wd
  · simp
  · rw [Array.toList_replicate, List.count_replicate_self]; exact Nat.le_refl _
  · have h0 : (fun j => (Array.replicate ops.size false).getD j false) = fun _ => false := funext fun j => by
      rw [Array.getD_eq_getD_getElem?, Array.getElem?_replicate]
      split <;> rfl
    rw [h0]
    exact ⟨rfl, rfl, fun _ _ => rfl, fun _ _ _ _ h => by simp at h, fun _ _ => rfl, fun _ _ _ h => by simp at h, start⟩
noncomputable def reg (f : Func) (id : Nat) : Array Oper := (((regs (f.body.getD .skip)).find? (·.1 == id)).map (·.2)).getD #[]
end Go.Proofs.YtdgphoemjeakaaaGreatDoor.Rg
