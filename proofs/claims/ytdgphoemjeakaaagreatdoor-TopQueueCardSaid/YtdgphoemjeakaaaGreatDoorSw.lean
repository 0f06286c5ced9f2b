/- The service, and a variable of the caller's that holds what was seen of it. -/
import Derived.Test.YtdgphoemjeakaaaGreatDoorZe
namespace Go.Proofs.YtdgphoemjeakaaaGreatDoor.Y
open Go.Proofs.YtdgphoemjeakaaaGreatDoor.Rg
open Go.Proofs.YtdgphoemjeakaaaGreatDoor.Me
open Go.RowKit Go.Proofs.YtdgphoemjeakaaaGreatDoor Go.Proofs.YtdgphoemjeakaaaGreatDoor.K Go.Proofs.YtdgphoemjeakaaaGreatDoor.P Go.Proofs.YtdgphoemjeakaaaGreatDoor.U Go.Proofs.YtdgphoemjeakaaaGreatDoor.R
theorem urem (a m : Int) (h0 : 0 < m) : ∃ x, 0 ≤ x ∧ x < m ∧ (IntKind.u64.wrap a).tmod m = x := by
  have e : IntKind.u64.wrap a = a % 18446744073709551616 := by simp [IntKind.wrap, IntKind.signed, IntKind.bits]
  have p : 0 ≤ IntKind.u64.wrap a := by rw [e]; omega
  refine ⟨(IntKind.u64.wrap a) % m, Int.emod_nonneg _ (by omega), Int.emod_lt_of_pos _ h0, ?_⟩
  rw [Int.tmod_eq_emod_of_nonneg p]
theorem small64 {x : Int} (h0 : 0 ≤ x) (h1 : x < 1000) : wrap64 x = x := by
  unfold wrap64
  omega
theorem ld24_row {w : World} {B : Nat} {cs : Array Value} (h : rowOf w B 0 20 = some (.agg cs)) : ld24 (.pointer (some ⟨B, 0, none⟩)) w = .ok (.value (.agg cs)) w := by
  simp [ld24, h]
/-- The service, and a variable of the caller's that holds what was seen. -/
def Sv (a : At) (ws : World) (B : Nat) (s : V.Sys) (x : Option Addr × Nat) (w : World) : Prop :=
  ∃ SS wk, Aft a SS wk s w ∧ (¬ SS B ∧ B < wk.heap.size ∧ ws.heap.size ≤ B) ∧ (∀ k, SS k → ws.heap.size ≤ k) ∧ Chg No ws wk ∧ Blk wk B (vs s x) 38
theorem Sv.make {a : At} {ws w1 wr wk : World} {B : Nat} {s : V.Sys} {x : Option Addr × Nat} (h : Aft a No w1 s wr) (c0 : Chg No ws w1) (c : Chg No wr wk) (hB : wr.heap.size ≤ B) (hb : Blk wk B (vs s x) 38) : Sv a ws B s x wk :=
  ⟨K.nx No w1 wr, wk, h.base c, ⟨fun h2 => by have := nx_bd h2; omega, hb.lt, Nat.le_trans (Nat.le_trans c0.size h.chg.size) hB⟩, fun _ hk => hk.1.elim False.elim fun h2 => Nat.le_trans c0.size h2, c0.trans (h.chg.trans c), hb⟩
theorem Sv.aft {a : At} {ws : World} {B : Nat} {s : V.Sys} {x : Option Addr × Nat} {w : World} (h : Sv a ws B s x w) : ∃ SS wk, Aft a SS wk s w ∧ ∀ s' w', Aft a SS wk s' w' → Blk w' B (vs s x) 38 ∧ Chg No ws w' ∧ ∀ x', Sv a ws B s' x' (wset w' B 0 (vs s' x').toList) := by
  obtain ⟨SS, wk, hA, ⟨n1, n2, n3⟩, hS, hc, hB⟩ := h
  refine ⟨SS, wk, hA, fun s' w' h' => ?_⟩
  have hb' : Blk w' B (vs s x) 38 := hB.chg h'.chg n1
  have hc' : Chg No ws w' := hc.of_new (h'.chg.mono fun k _ hk => hS k hk)
  refine ⟨hb', hc', fun x' => ?_⟩
  have hn : ¬ K.nx SS wk w' B := fun h2 => h2.1.elim n1 (by omega)
  have hb9 : Blk (wset w' B 0 (vs s' x').toList) B (vs s' x') 38 := by
    have := Blk.wset (vs s' x').toList 0 hb'
    rw [aset_t] at this
    exact this
  refine ⟨K.nx SS wk w', _, ?_, ⟨hn, hb9.lt, n3⟩, fun k hk => hk.1.elim (hS k) fun h2 => Nat.le_trans hc.size h2, Chg.wset (fun h => absurd h (by omega)) _ _ hc', hb9⟩
  obtain ⟨rv, tv, tn, htn, tx, hs⟩ := h'
  exact ⟨rv, tv, tn, htn, tx, St.start (Y2.good.chg hs.1 (Chg.wset (T := fun k => k = B) (fun _ => rfl) _ _ (Chg.refl _ w')) fun k hk hkB => hn (hkB ▸ hk))⟩
theorem Sv.blk {a : At} {ws : World} {B : Nat} {s : V.Sys} {x : Option Addr × Nat} {w : World} (h : Sv a ws B s x w) : Blk w B (vs s x) 38 ∧ Chg No ws w := by
  obtain ⟨SS, wk, hA, hK⟩ := h.aft
  exact ⟨(hK s w hA).1, (hK s w hA).2.1⟩
/-- The service: all that it owns is new since then. -/
def Sx (a : At) (ws : World) (s : V.Sys) (w : World) : Prop := ∃ SS wk, Aft a SS wk s w ∧ (∀ k, SS k → ws.heap.size ≤ k) ∧ Chg No ws wk
theorem Sx.of {a : At} {ws w1 w : World} {s : V.Sys} (h : Aft a No w1 s w) (c0 : Chg No ws w1) : Sx a ws s w := ⟨No, w1, h, fun _ h => h.elim, c0⟩
theorem Sx.chg {a : At} {ws w : World} {s : V.Sys} (h : Sx a ws s w) : Chg No ws w := by
  obtain ⟨SS, wk, hA, hS, hc⟩ := h
  exact hc.of_new (hA.chg.mono fun k _ hk => hS k hk)
theorem Sx.no {a : At} {ws w w' : World} {s : V.Sys} (h : Sx a ws s w) (c : Chg No w w') : Sx a ws s w' := by
  obtain ⟨SS, wk, hA, hS, hc⟩ := h
  exact ⟨SS, wk, hA.no c, hS, hc⟩
theorem Sx.aft {a : At} {ws w : World} {s : V.Sys} (h : Sx a ws s w) : ∃ SS wk, Aft a SS wk s w ∧ ∀ s' w', Aft a SS wk s' w' → Sx a ws s' w' := by
  obtain ⟨SS, wk, hA, hS, hc⟩ := h
  exact ⟨SS, wk, hA, fun s' w' h' => ⟨SS, wk, h', hS, hc⟩⟩
theorem Sx.make {a : At} {ws wr wk : World} {B : Nat} {s : V.Sys} {x : Option Addr × Nat} (h : Sx a ws s wr) (c : Chg No wr wk) (hB : wr.heap.size ≤ B) (hb : Blk wk B (vs s x) 38) : Sv a ws B s x wk := by
  have h0 := h.chg
  obtain ⟨SS, w1, hA, hS, hc⟩ := h
  exact ⟨K.nx SS w1 wr, wk, hA.base c, ⟨fun h2 => by have := nx_bd h2; omega, hb.lt, Nat.le_trans h0.size hB⟩, fun k hk => hk.1.elim (hS k) fun h2 => Nat.le_trans hc.size h2, h0.trans c, hb⟩
theorem Sv.sx {a : At} {ws : World} {B : Nat} {s : V.Sys} {x : Option Addr × Nat} {w : World} (h : Sv a ws B s x w) : Sx a ws s w := by
  obtain ⟨SS, wk, hA, _, hS, hc, _⟩ := h
  exact ⟨SS, wk, hA, hS, hc⟩
/-- All requests. -/
theorem requests_at {a : At} {SS : Nat → Prop} {w0 w : World} {s : V.Sys} (h : Aft a SS w0 s w) (hr : s.rs.length ≤ 1000000) :
    Calls Tryz.prog 14 #[.pointer (some ⟨a.p, 0, none⟩)] w fun e w' => ∃ v, e = .returned v ∧ Own w' (New w) 48 4 v s.rs.length (reqs s.rs) ∧ Chg No w w' := by
  obtain ⟨_, _, _, _, _, hs⟩ := h
  exact requests_any hs hr
/-- What is seen, cell by cell. -/
theorem vs_lit (s : V.Sys) (x : Option Addr × Nat) : vs s x = #[.int .i64 s.now, .int .i64 s.want, .bool s.ld.panic, .bool s.proxy, .slice x.1 s.pods.length x.2, .int .i64 s.q.length, .int .i64 (V.ends s.rs 2), .int .i64 (V.ends s.rs 0), .int .i64 (V.ends s.rs 1), .int .i64 (V.ends s.rs 2), .int .i64 (V.ends s.rs 3), .int .i64 (V.ends s.rs 4), .int .i64 (V.ends s.rs 5), .int .i64 (V.ends s.rs 6), .bool false] := rfl
end Go.Proofs.YtdgphoemjeakaaaGreatDoor.Y
