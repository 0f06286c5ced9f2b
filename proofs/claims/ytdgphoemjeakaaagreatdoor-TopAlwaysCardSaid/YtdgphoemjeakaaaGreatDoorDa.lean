/- TopAlways: an event that is no crash and no settings: what holds of the service holds behind it. -/
import Derived.Test.YtdgphoemjeakaaaGreatDoorQ21
import Derived.Test.YtdgphoemjeakaaaGreatDoorAl
namespace Go.Proofs.YtdgphoemjeakaaaGreatDoor.Y
open Go.Proofs.YtdgphoemjeakaaaGreatDoor.Rg
open Go.Proofs.YtdgphoemjeakaaaGreatDoor.Me
open Go.RowKit Go.Proofs.YtdgphoemjeakaaaGreatDoor Go.Proofs.YtdgphoemjeakaaaGreatDoor.K Go.Proofs.YtdgphoemjeakaaaGreatDoor.P Go.Proofs.YtdgphoemjeakaaaGreatDoor.U Go.Proofs.YtdgphoemjeakaaaGreatDoor.R

/-- What holds of the service behind j events. -/
structure Hold (a : At) (j : Nat) (s : V.Sys) : Prop where
  inv : V.Inv a.li s
  alw : V.Alw a.bu s
  now : s.now ≤ 200 * j
  len : s.rs.length ≤ 100 * j
theorem fin_now (li : Int) (n : Nat) (s : V.Sys) : (V.finish li n s).2.now = s.now := by
  unfold V.finish
  split <;> rfl
theorem lose_inv {li n : Int} {s : V.Sys} (h : V.Inv li s) (n0 : 0 ≤ n) : V.Inv li (lose n s) :=
  ⟨h.now0, h.pods, h.load, h.qlen, h.qat, h.ql, h.rst, h.dec, by have := h.lost; exact ⟨by show 0 ≤ min (s.lost + n) 1000; omega, by show min (s.lost + n) 1000 ≤ 1000; omega⟩, h.zs, h.want⟩
theorem do_any (hm : Said.may) {a : At} (ok : P.Ok a.bu a.ini a.li a.rd) {SS : Nat → Prop} {w0 w : World} {s : V.Sys} (h : Aft a SS w0 s w) (j : Nat) (hj : j ≤ 60) (ho : Hold a j s) (k n : Int) (t : ByteArray) (h4 : k ≠ 4) (h5 : k ≠ 5) :
    Calls Tryz.prog 12 #[.pointer (some ⟨a.p, 0, none⟩), evt k n t] w fun e w' => ∃ c s', e = .returned (.int .i64 c) ∧ Aft a SS w0 s' w' ∧ Hold a (j + 1) s' := by
  obtain ⟨inv, alw, hn, hl⟩ := ho
  have l0 := ok.li
  by_cases hmay : E.may k n (!t.toList.isEmpty) = false
  · exact (do_bad h k n t h5 hmay).mono fun e w' ⟨he, hA⟩ => ⟨_, s, he, hA, inv, alw, by omega, by omega⟩
  · have h2 : E.may k n (!t.toList.isEmpty) = true := by simpa using hmay
    unfold E.may at h2
    have ht : (!t.toList.isEmpty) = false := by
      cases hx : (!t.toList.isEmpty) with
      | false => rfl
      | true =>
        rw [hx] at h2
        simp [h5] at h2
    rw [ht] at h2
    by_cases k1 : k = 1
    · subst k1
      simp at h2
      obtain ⟨m, rfl⟩ : ∃ m : Nat, n = m := ⟨n.toNat, by omega⟩
      refine (do_tick hm ok h inv m t ⟨by omega, by omega⟩ ht (by omega) (by omega)).mono fun e w' ⟨he, hA⟩ => ⟨_, _, he, hA, inv.ticks (by omega) (by omega) m, alw.ticks m, ?_, ?_⟩
      · rw [V.ticks_now]; omega
      · rw [V.ticks_len]; omega
    · by_cases k2 : k = 2
      · subst k2
        simp at h2
        obtain ⟨m, rfl⟩ : ∃ m : Nat, n = m := ⟨n.toNat, by omega⟩
        refine (do_arrive h inv m t ⟨by omega, by omega⟩ ht (by omega) (by omega) (by omega) (by omega)).mono fun e w' ⟨he, hA⟩ => ⟨_, _, he, hA, inv.arrives m, alw.arrives m, ?_, ?_⟩
        · rw [arrives_now]; omega
        · rw [V.arrives_len]; omega
      · by_cases k3 : k = 3
        · subst k3
          simp at h2
          obtain ⟨m, rfl⟩ : ∃ m : Nat, n = m := ⟨n.toNat, by omega⟩
          refine (do_finish h inv m t (by omega) ht (by omega) (by omega) (by omega) (by omega)).mono fun e w' ⟨he, hA⟩ => ⟨_, _, he, hA, inv.finish, alw.finish, ?_, ?_⟩
          · rw [fin_now]; omega
          · rw [V.finish_len]; omega
        · by_cases k6 : k = 6
          · subst k6
            simp at h2
            exact (do_lose h inv n t h2 ht).mono fun e w' ⟨he, hA⟩ => ⟨_, _, he, hA, lose_inv inv (by omega), alw.as rfl fun u => u, by show s.now ≤ _; omega, by show s.rs.length ≤ _; omega⟩
          · exfalso
            simp [k1, k2, k3, h4, k6] at h2
end Go.Proofs.YtdgphoemjeakaaaGreatDoor.Y
