/- TopAlways: the plain law: whether the activator is in the way hangs on the burst, and on who is ready. -/
import Derived.Test.YtdgphoemjeakaaaGreatDoorQ11
namespace Go.Proofs.YtdgphoemjeakaaaGreatDoor.V
open Go.Proofs.YtdgphoemjeakaaaGreatDoor
open Go.Proofs.YtdgphoemjeakaaaGreatDoor.M (Pod)

/-- One is ready. -/
def Up (ps : List Pod) : Prop := ∃ p, p ∈ ps ∧ p.st = 2
theorem up_set {ps : List Pod} {k : Nat} {q q' : Pod} (hk : ps[k]? = some q) (hs : q'.st = 2 → q.st = 2) (h : Up (ps.set k q')) : Up ps := by
  obtain ⟨p, hp, h2⟩ := h
  rcases List.mem_or_eq_of_mem_set hp with hp | rfl
  · exact ⟨p, hp, h2⟩
  · exact ⟨q, List.mem_of_getElem? hk, hs h2⟩
theorem up_erase {ps : List Pod} {k : Nat} (h : Up (ps.eraseIdx k)) : Up ps := by
  obtain ⟨p, hp, h2⟩ := h
  exact ⟨p, List.mem_of_mem_eraseIdx hp, h2⟩
theorem up_enter {ps : List Pod} {id : Int} (h : Up (M.enter ps id).2) : Up ps := by
  unfold M.enter at h
  split at h
  · exact h
  · split at h
    · exact h
    · rename_i q hq
      split at h
      · exact h
      · exact up_set hq (q' := { q with busy := q.busy + 1 }) (fun (e : q.st = 2) => e) h
theorem up_leave {ps : List Pod} {id : Int} (h : Up (M.leave ps id).2) : Up ps := by
  unfold M.leave at h
  split at h
  · exact h
  · split at h
    · exact h
    · rename_i q hq
      split at h
      · exact h
      · split at h
        · exact up_erase h
        · exact up_set hq (q' := { q with busy := q.busy - 1 }) (fun (e : q.st = 2) => e) h
theorem up_gone {now : Int} {ps : List Pod} (h : Up (M.gone now ps)) : Up ps := by
  unfold M.gone at h
  split at h
  · exact h
  · rename_i q hq
    split at h
    · exact up_erase h
    · exact up_set hq (fun e => absurd e (by show ¬ (3 : Int) = 2; decide)) h
theorem up_fewer (now : Int) : ∀ (n : Nat) {ps : List Pod}, Up (M.fewer now n ps) → Up ps
  | 0, _, h => h
  | n + 1, _, h => up_gone (up_fewer now n h)
theorem up_more (now : Int) : ∀ (n : Nat) (ps : List Pod) (made : Int), Up (M.more now n (ps, made)).1 → Up ps
  | 0, _, _, h => h
  | n + 1, ps, made, h => by
    obtain ⟨p, hp, h2⟩ := up_more now n _ _ h
    rcases List.mem_append.1 hp with hp | hp
    · exact ⟨p, hp, h2⟩
    · rw [List.mem_singleton.1 hp] at h2
      exact absurd h2 (by show ¬ (1 : Int) = 2; decide)
theorem up_scale {want : Nat} {now : Int} {ps : List Pod} {made : Int} (h : Up (M.scale want now ps made).1) : Up ps := up_more now _ _ _ (up_fewer now _ h)
theorem up_sentGo (li now : Int) : ∀ (q : List (Int × Int)) (ps : List Pod) (rs : List Req), Up (sentGo li now q ps rs).2.1 → Up ps
  | [], _, _, h => h
  | x :: q, ps, rs, h => by
    rw [sentGo] at h
    split at h
    · exact h
    · exact up_enter (up_sentGo li now q _ _ h)
theorem ready_up {ps : List Pod} (h : Up ps) : 1 ≤ (M.ready ps).length := by
  obtain ⟨p, hp, h2⟩ := h
  have : p.id ∈ M.ready ps := List.mem_map.2 ⟨p, List.mem_filter.2 ⟨hp, by simp [h2]⟩, rfl⟩
  exact List.length_pos_of_mem this
/-- Always in the way; or never while one is ready. -/
def Alw (bu : Int) (s : Sys) : Prop := (bu = -1000 → s.proxy = true) ∧ (bu = 0 → Up s.pods → s.proxy = false)
theorem Alw.as {bu : Int} {s s' : Sys} (h : Alw bu s) (hp : s'.proxy = s.proxy) (hu : Up s'.pods → Up s.pods) : Alw bu s' := ⟨fun e => hp.trans (h.1 e), fun e u => hp.trans (h.2 e (hu u))⟩
theorem Alw.sent {bu li : Int} {s : Sys} (h : Alw bu s) : Alw bu (sent li s) := h.as rfl (up_sentGo li s.now s.q s.pods s.rs)
theorem Alw.come {bu : Int} {s : Sys} (h : Alw bu s) : Alw bu (come s) := by
  unfold V.come
  split <;> exact h.as rfl (fun u => u)
theorem Alw.arrives {bu li : Int} : ∀ (n : Nat) {s : Sys}, Alw bu s → Alw bu (arrives li n s)
  | 0, _, h => h
  | n + 1, _, h => Alw.arrives n (Alw.sent h.come)
theorem Alw.finish {bu li : Int} {n : Nat} {s : Sys} (h : Alw bu s) : Alw bu (finish li n s).2 := by
  unfold V.finish
  split
  · exact h
  · exact Alw.sent (h.as rfl up_leave)
theorem Alw.tick2 (bu li : Int) (s : Sys) : Alw bu (tick2 bu li s) := by
  refine ⟨fun e => ?_, fun e u => ?_⟩
  · show P.proxy bu _ _ = true
    unfold P.proxy
    rw [e]
    rfl
  · have h1 := ready_up (ps := s.pods) u
    show P.proxy bu ((M.ready s.pods).length : Int) _ = false
    unfold P.proxy
    subst e
    rw [decide_eq_false (p := ((M.ready s.pods).length : Int) < 1) (by omega)]
    rfl
theorem Alw.tick (bu li rd : Int) (s : Sys) : Alw bu (tick bu li rd s) := Alw.sent ((Alw.tick2 bu li (tick1 rd s)).as rfl up_scale)
theorem Alw.ticks {bu li rd : Int} : ∀ (n : Nat) {s : Sys}, Alw bu s → Alw bu (ticks bu li rd n s)
  | 0, _, h => h
  | n + 1, _, _ => Alw.ticks n (Alw.tick bu li rd _)
theorem Alw.new (bu li : Int) : Alw bu (new bu 1 li) := by
  refine ⟨fun e => ?_, fun e _ => ?_⟩
  · show P.proxy bu 1 _ = true
    rw [e]
    rfl
  · show P.proxy bu 1 _ = false
    rw [e]
    rfl
end Go.Proofs.YtdgphoemjeakaaaGreatDoor.V
