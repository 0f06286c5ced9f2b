/- A region that draws its order: more steps, for regions that are printed. The whole service: regions that draw their order. The whole service: stand. The whole service: regions that draw their order. -/
import Derived.Test.YtdgphoemjeakaaaGreatDoorR09
import Derived.Test.YtdgphoemjeakaaaGreatDoorR02
namespace Go.Proofs.YtdgphoemjeakaaaGreatDoor.Rg
open Go.RowKit K W P
theorem fls {ops : Array Oper} {L : Nat → Bool} {i : Nat} (h : ∀ k, L k = true → ∀ m, anc ops m k i = false) (m k : Nat) (ha : anc ops m k i = true) : L k = false := by
  cases hl : L k with
  | false => rfl
  | true => rw [h k hl m] at ha; cases ha
section
variable {P : Program} {ops : Array Oper} {X : Type} {l : X → Lay} {k0 : Known} {t0 : Array Value} {Wd : X → (Nat → Bool) → World → Prop} {Q : Exit → Act → World → Prop}
theorem stepE {n i : Nat} {o : Oper} {v : X → Value} (u : X → Value) (F : Flows ops l k0 t0 n) (ho : ops[i]? = some o) (hw : ∀ x, wish ops (l x) k0 o = true) (hv : ∀ x w, (execOp (ev (l x) k0) o).run P w = .ok (.value (u x)) w) (hl : ∀ x, (l x)[i]? = some (o.dst, v x)) (he : ∀ x, u x = v x)
    (hW : ∀ x L w, Wd x L w → Wd x (fun j => j == i || L j) w) : RStepX P ops l t0 Wd Q i :=
  stepR F ho hw hl fun x L w _ _ _ hx => by
    rw [hv x w]
    exact ⟨.inr (he x), hW x L w hx⟩
theorem stepI {n i : Nat} {o : Oper} {v : X → Nat} {ty e : TypeId} {s u : Operand} (q : X → Nat × Nat × Nat × Nat) (c : X → Nat) (sz : Nat) (F : Flows ops l k0 t0 n) (ho : ops[i]? = some o) (hw : ∀ x, wish ops (l x) k0 o = true) (hl : ∀ x, (l x)[i]? = some (o.dst, .pointer (some ⟨(q x).1, v x, none⟩)))
    (hop : o.op = .indexAddr ty s u) (hs : ∀ x, ev (l x) k0 s = .slice (some ⟨(q x).1, (q x).2.1, none⟩) (q x).2.2.2 (c x)) (hu : ∀ x, ev (l x) k0 u = .int .i64 ((q x).2.2.1 : Nat)) (hk : ∀ x, (q x).2.2.1 < (q x).2.2.2) (hty : P.underlying ty = some (.slice e)) (hz : (P.info? e).map (·.size) = some sz) (hv : ∀ x, v x = (q x).2.1 + (q x).2.2.1 * sz)
    (hW : ∀ x L w, Wd x L w → Wd x (fun j => j == i || L j) w) : RStepX P ops l t0 Wd Q i :=
  stepR F ho hw hl fun x L w _ _ _ hx => by
    obtain ⟨inf, hi, hsz⟩ := Option.map_eq_some_iff.1 hz
    have hin : (0 : Int) ≤ ((q x).2.2.1 : Int) ∧ ((q x).2.2.1 : Int) < (((q x).2.2.2 : Nat) : Int) := ⟨Int.natCast_nonneg _, Int.ofNat_lt.2 (hk x)⟩
    have hrun : (Instr.indexAt ty (.slice (some ⟨(q x).1, (q x).2.1, none⟩) (q x).2.2.2 (c x)) (.int .i64 ((q x).2.2.1 : Nat))).run P w = .ok (.pointer (some ⟨(q x).1, v x, none⟩)) w := by
      simp [Instr.indexAt, asIntOf, run_underlying hty, sizeOf, typeInfo, hi, hin, hk x, hsz, hv x, Addr.add]
    unfold execOp
    simp only [hop, hs, hu, Sem.run_bind, hrun, Result.andThen_ok, Sem.run_pure]
    exact ⟨.inr rfl, hW x L w hx⟩
theorem stepM {n i : Nat} {o : Oper} (nx : X → Nat → X) (v : X → Nat → Value) (obj : X → Obj) (F : Flows ops l k0 t0 n) (ho : ops[i]? = some o) (hw : ∀ x, wish ops (l x) k0 o = true) (he : ∀ x w, (execOp (ev (l x) k0) o).run P w = .ok (.value (v x w.heap.size)) (w.alloc (obj x))) (hl : ∀ x z, (l (nx x z))[i]? = some (o.dst, v x z))
    (hc : ∀ (x : X) (L : Nat → Bool) (w : World), L i = false → (∀ k, anc ops n i k = true → L k = true) → (∀ k, L k = true → ∀ m, anc ops m k i = false) → Wd x L w → (∀ j, L j = true → (l (nx x w.heap.size))[j]? = (l x)[j]?) ∧ Wd (nx x w.heap.size) (fun j => j == i || L j) (w.alloc (obj x))) : RStepX P ops l t0 Wd Q i :=
  stepX F ho fun x L w h1 h2 h3 hx => by
    rw [if_pos (hw x), he]
    obtain ⟨h4, h5⟩ := hc x L w h1 h2 h3 hx
    exact ⟨_, h4, ⟨_, hl x _, .inr rfl⟩, h5⟩
theorem stepA {n i : Nat} {o : Oper} {e : TypeId} {z : Value} {sz bytes : Nat} (nx : X → Option Addr × Nat → X) (s u : Operand) (t : TypeId) (sv : X → Value) (q : X → Nat × Nat) (F : Flows ops l k0 t0 n) (ho : ops[i]? = some o) (hw : ∀ x, wish ops (l x) k0 o = true)
    (hop : o.op = .call { callee := .builtin .append, args := #[s, u], argTypes := #[t, t] }) (hs : ∀ x, ev (l x) k0 s = sv x) (hu : ∀ x, ev (l x) k0 u = .slice (some ⟨(q x).1, 0, none⟩) 1 1) (hl : ∀ x y, (l (nx x y))[i]? = some (o.dst, .slice y.1 ((q x).2 + 1) y.2)) (ht : P.underlying t = some (.slice e)) (news : X → List Value)
    (info : (P.info? e).map (fun i => (i.zero, i.size, i.bytes)) = some (some z, sz, bytes)) (hzc : z.cells.size = sz) (hlen : ∀ x, (news x).length = sz) (h1 : ∀ x, (news x).all (·.oneCell') = true)
    (hc : ∀ (x : X) (L : Nat → Bool) (w : World), L i = false → (∀ k, anc ops n i k = true → L k = true) → (∀ k, L k = true → ∀ m, anc ops m k i = false) → Wd x L w → ∃ (S : Nat → Prop) (xs : List Value), Own w S e sz (sv x) (q x).2 xs ∧ (∀ j u, (news x)[j]? = some u → w.cell? ((⟨(q x).1, 0, none⟩ : Addr).add j) = some u) ∧ (q x).2 + 1 ≤ maxLen ∧ ((q x).2 + 1) * bytes ≤ 140737488355328 ∧
      ∀ g' o' c' w', Own w' (K.nx S w w') e sz (.slice (some ⟨g', o', none⟩) ((q x).2 + 1) c') ((q x).2 + 1) (xs ++ news x) → Chg S w w' → (∀ j, L j = true → (l (nx x (some ⟨g', o', none⟩, c')))[j]? = (l x)[j]?) ∧ Wd (nx x (some ⟨g', o', none⟩, c')) (fun j => j == i || L j) w') : RStepX P ops l t0 Wd Q i :=
  stepX F ho fun x L w h2 h3 h4 hx => by
    obtain ⟨S, xs, hown, hnews, h63, hby, hK⟩ := hc x L w h2 h3 h4 hx
    obtain ⟨i0, hi, hz0, hz1, hz2⟩ := info_parts info
    obtain ⟨v', w', hr, h5, h6⟩ := run_app (P := P) w S t o.type e i0 z sz bytes ht hi hz0 hz1 hz2 hzc (sv x) (q x).2 xs hown ⟨(q x).1, 0, none⟩ 1 1 (news x) (by decide) (by rw [hlen x, Nat.one_mul]) hnews (List.all_eq_true.1 (h1 x)) h63 hby
    rw [if_pos (hw x)]
    rcases h5.form with ⟨_, h0, _⟩ | ⟨g, o', c', rfl, _⟩
    · omega
    obtain ⟨h7, h8⟩ := hK g o' c' w' h5 h6
    unfold execOp
    simp only [hop, resolve, invoke, builtin, Sem.run_bind, Sem.run_pure, Result.andThen_ok, List.map_toArray, List.map_cons, List.map_nil, hs, hu, hr]
    exact ⟨_, h7, ⟨_, hl x _, .inr rfl⟩, h8⟩
theorem stepR24 {n i : Nat} {o : Oper} {v : X → Value} {u : Operand} (ad : X → Nat × Nat) (F : Flows ops l k0 t0 n) (ho : ops[i]? = some o) (hw : ∀ x, wish ops (l x) k0 o = true) (hl : ∀ x, (l x)[i]? = some (o.dst, v x))
    (hop : o.op = .load 24 u) (he : ∀ x, ev (l x) k0 u = .pointer (some ⟨(ad x).1, (ad x).2, none⟩))
    (hc : ∀ (x : X) (L : Nat → Bool) (w : World), L i = false → (∀ k, anc ops n i k = true → L k = true) → (∀ k, L k = true → ∀ m, anc ops m k i = false) → Wd x L w → rowOf w (ad x).1 (ad x).2 20 = some (v x) ∧ Wd x (fun j => j == i || L j) w) : RStepX Tryz.prog ops l t0 Wd Q i :=
  stepR F ho hw hl fun x L w h1 h2 h3 hx => by
    obtain ⟨h4, h5⟩ := hc x L w h1 h2 h3 hx
    have h6 := load24 (w := w) (b := (ad x).1) (o := (ad x).2) (by rw [h4]; rfl)
    rw [h4, Option.getD_some] at h6
    unfold execOp
    simp only [hop, he, Sem.run_bind, h6, Result.andThen_ok, Sem.run_pure]
    exact ⟨.inr rfl, h5⟩
end
end Go.Proofs.YtdgphoemjeakaaaGreatDoor.Rg
namespace Go.Proofs.YtdgphoemjeakaaaGreatDoor.Y
open Go.RowKit K P W Rg
noncomputable def R_stand : Array Oper := reg Tryz.f53 0
theorem stand_size : R_stand.size = 21 := by kernel_rfl
noncomputable def lay_stand (p : Nat) (g : Nat) (of : Nat) (n : Nat) (c : Nat) (k : Nat) (st : Int) (now : Int) (_ : Unit) : Lay := [(some 6, .pointer (some ⟨p, 0, none⟩)),
  (some 7, .pointer (some ⟨p, 0, none⟩)),
  (some 8, .pointer (some ⟨p, 22, none⟩)),
  (some 9, .slice (some ⟨g, of, none⟩) (n) (c)),
  (some 10, .int .i64 k),
  (some 11, .pointer (some ⟨p, 0, none⟩)),
  (some 12, .pointer (some ⟨p, 0, none⟩)),
  (some 13, .pointer (some ⟨p, 22, none⟩)),
  (some 14, .slice (some ⟨g, of, none⟩) (n) (c)),
  (some 15, .int .i64 k),
  (some 16, .int .i64 st),
  (some 17, .pointer (some ⟨p, 0, none⟩)),
  (some 18, .pointer (some ⟨p, 0, none⟩)),
  (some 19, .pointer (some ⟨p, 20, none⟩)),
  (some 20, .int .i64 now),
  (some 21, .pointer (some ⟨g, of + k * 4, none⟩)),
  (some 22, .pointer (some ⟨g, of + k * 4 + 2, none⟩)),
  (none, undef),
  (some 23, .pointer (some ⟨g, of + k * 4, none⟩)),
  (some 24, .pointer (some ⟨g, of + k * 4 + 1, none⟩)),
  (none, undef)]
set_option maxRecDepth 1000000 in
theorem stand_at {ops : Array Oper} (ho : ops = R_stand) (p : Nat) (g : Nat) (of : Nat) (n : Nat) (c : Nat) (k : Nat) (st : Int) (now : Int) (X : (Unit) → Bool → Bool → World → Prop) (hk : k < n) (M3 : ∀ (x : (Unit)) (w : World), X x false false w → w.cell? ⟨p, 22, none⟩ = some (.slice (some ⟨g, of, none⟩) (n) (c))) (M14 : ∀ (x : (Unit)) (w : World), X x false false w → w.cell? ⟨p, 20, none⟩ = some (.int .i64 now)) (S17 : ∀ (x : (Unit)) (w : World), X x false false w → ∃ u0, w.cell? ⟨g, of + k * 4 + 2, none⟩ = some u0 ∧ w.frozen? ⟨g, of + k * 4 + 2, none⟩ = false ∧ X x true false (w.setCell ⟨g, of + k * 4 + 2, none⟩ (.int .i64 st))) (S20 : ∀ (x : (Unit)) (w : World), X x true false w → ∃ u0, w.cell? ⟨g, of + k * 4 + 1, none⟩ = some u0 ∧ w.frozen? ⟨g, of + k * 4 + 1, none⟩ = false ∧ X x true true (w.setCell ⟨g, of + k * 4 + 1, none⟩ (.int .i64 now))) (t0 : Array Value) (hz : t0.size = 25) (ht0 : t0[0]? = some (.pointer (some ⟨p, 0, none⟩))) (ht1 : t0[1]? = some (.int .i64 k)) (ht2 : t0[2]? = some (.int .i64 st)) {id : Nat} {Q : Exit → Act → World → Prop} {w : World} (x0 : (Unit)) (start : X x0 false false w.drew) (fin : ∀ x w', X x true true w' → Q .normal ⟨puts ((lay_stand p g of n c k st now) x) t0, []⟩ w') : (Code.region id ops true).wp Tryz.prog Q ⟨t0, []⟩ w := by
  subst ho
  have F : Flows (X := (Unit)) R_stand (lay_stand p g of n c k st now) [(0, .pointer (some ⟨p, 0, none⟩)), (1, .int .i64 k), (2, .int .i64 st)] t0 9 := Flows.of (by kernel_rfl) hz (fun _ => by kernel_rfl) (.cons ht0 (.cons ht1 (.cons ht2 .nil)))
  refine wp_flow (Wd := (fun x L => X x (L 17) (L 20))) F rfl x0 start (fun i hi => ?_) (fun x L w' hl hw => fin x w' ?_)
  · rw [stand_size] at hi
    match i, hi with
    | 0, _ => exact stepP F rfl (fun _ => rfl) (fun _ _ => by kernel_rfl) (fun _ => rfl) (fun _ _ _ h => h)
    | 1, _ => exact stepP F rfl (fun _ => rfl) (fun _ _ => by kernel_rfl) (fun _ => rfl) (fun _ _ _ h => h)
    | 2, _ => exact stepP F rfl (fun _ => rfl) (fun _ _ => by kernel_rfl) (fun _ => rfl) (fun _ _ _ h => h)
    | 3, _ => exact stepL (fun _ => ⟨p, 22, none⟩) F rfl (fun _ => rfl) (fun _ => rfl) rfl (fun _ => rfl) Tryz.underlying45 rfl (fun x L w z1 z2 z3 h => by
      have h : X x (L 17) (L 20) w := h
      have e17 := fls z3 9 17 (by kernel_rfl)
      have e20 := fls z3 9 20 (by kernel_rfl)
      simp only [e17, e20] at h ⊢
      exact ⟨M3 x  w h, h⟩)
    | 4, _ => exact stepP F rfl (fun _ => rfl) (fun _ _ => by kernel_rfl) (fun _ => rfl) (fun _ _ _ h => h)
    | 5, _ => exact stepP F rfl (fun _ => rfl) (fun _ _ => by kernel_rfl) (fun _ => rfl) (fun _ _ _ h => h)
    | 6, _ => exact stepP F rfl (fun _ => rfl) (fun _ _ => by kernel_rfl) (fun _ => rfl) (fun _ _ _ h => h)
    | 7, _ => exact stepP F rfl (fun _ => rfl) (fun _ _ => by kernel_rfl) (fun _ => rfl) (fun _ _ _ h => h)
    | 8, _ => exact stepL (fun _ => ⟨p, 22, none⟩) F rfl (fun _ => rfl) (fun _ => rfl) rfl (fun _ => rfl) Tryz.underlying45 rfl (fun x L w z1 z2 z3 h => by
      have h : X x (L 17) (L 20) w := h
      have e17 := fls z3 9 17 (by kernel_rfl)
      have e20 := fls z3 9 20 (by kernel_rfl)
      simp only [e17, e20] at h ⊢
      exact ⟨M3 x  w h, h⟩)
    | 9, _ => exact stepP F rfl (fun _ => rfl) (fun _ _ => by kernel_rfl) (fun _ => rfl) (fun _ _ _ h => h)
    | 10, _ => exact stepP F rfl (fun _ => rfl) (fun _ _ => by kernel_rfl) (fun _ => rfl) (fun _ _ _ h => h)
    | 11, _ => exact stepP F rfl (fun _ => rfl) (fun _ _ => by kernel_rfl) (fun _ => rfl) (fun _ _ _ h => h)
    | 12, _ => exact stepP F rfl (fun _ => rfl) (fun _ _ => by kernel_rfl) (fun _ => rfl) (fun _ _ _ h => h)
    | 13, _ => exact stepP F rfl (fun _ => rfl) (fun _ _ => by kernel_rfl) (fun _ => rfl) (fun _ _ _ h => h)
    | 14, _ => exact stepL (fun _ => ⟨p, 20, none⟩) F rfl (fun _ => rfl) (fun _ => rfl) rfl (fun _ => rfl) Tryz.underlying2 rfl (fun x L w z1 z2 z3 h => by
      have h : X x (L 17) (L 20) w := h
      have e17 := fls z3 9 17 (by kernel_rfl)
      have e20 := fls z3 9 20 (by kernel_rfl)
      simp only [e17, e20] at h ⊢
      exact ⟨M14 x  w h, h⟩)
    | 15, _ => exact stepI (fun _ => (g, of, k, n)) (fun _ => c) 4 F rfl (fun _ => rfl) (fun _ => rfl) rfl (fun _ => rfl) (fun _ => rfl) (fun _ => by assumption) Tryz.underlying45 (by kernel_rfl) (fun _ => by simp) (fun _ _ _ h => h)
    | 16, _ => exact stepP F rfl (fun _ => rfl) (fun _ _ => by kernel_rfl) (fun _ => rfl) (fun _ _ _ h => h)
    | 17, _ => exact stepS (fun _ => (g, of + k * 4 + 2)) F rfl (fun _ => rfl) (fun _ => rfl) rfl rfl (fun _ => rfl) (fun _ => rfl) (by kernel_rfl) (fun _ => rfl) (fun x L w z1 z2 z3 h => by
      have h : X x (L 17) (L 20) w := h
      have e17 : L 17 = false := z1
      have e20 := fls z3 9 20 (by kernel_rfl)
      simp only [e17, e20] at h ⊢
      obtain ⟨u0, c0, g0, hx⟩ := S17 x  w h
      exact ⟨⟨u0, c0⟩, g0, hx⟩)
    | 18, _ => exact stepI (fun _ => (g, of, k, n)) (fun _ => c) 4 F rfl (fun _ => rfl) (fun _ => rfl) rfl (fun _ => rfl) (fun _ => rfl) (fun _ => by assumption) Tryz.underlying45 (by kernel_rfl) (fun _ => by simp) (fun _ _ _ h => h)
    | 19, _ => exact stepP F rfl (fun _ => rfl) (fun _ _ => by kernel_rfl) (fun _ => rfl) (fun _ _ _ h => h)
    | 20, _ => exact stepS (fun _ => (g, of + k * 4 + 1)) F rfl (fun _ => rfl) (fun _ => rfl) rfl rfl (fun _ => rfl) (fun _ => rfl) (by kernel_rfl) (fun _ => rfl) (fun x L w z1 z2 z3 h => by
      have h : X x (L 17) (L 20) w := h
      have e17 := z2 17 (by kernel_rfl)
      have e20 : L 20 = false := z1
      simp only [e17, e20] at h ⊢
      obtain ⟨u0, c0, g0, hx⟩ := S20 x  w h
      exact ⟨⟨u0, c0⟩, g0, hx⟩)
    | n + 21, h => exact absurd h (by omega)
  · have hw : X x (L 17) (L 20) w' := hw
    rw [hl 17 (by rw [stand_size]; omega), hl 20 (by rw [stand_size]; omega)] at hw
    exact hw
end Go.Proofs.YtdgphoemjeakaaaGreatDoor.Y
namespace Go.Proofs.YtdgphoemjeakaaaGreatDoor.Y
open Me
open Rg
open Go.RowKit K P U R
set_option maxRecDepth 100000
theorem St.reqSet {a : At} {S : Nat → Prop} {w0 : World} {cs : Array Value} {tv : Value} {tn : Nat} {tx : List Value} {s : V.Sys} {w : World} {g o n c : Nat} (h : St a S w0 cs (.slice (some ⟨g, o, none⟩) n c) tv tn tx s w) (hn : n = s.rs.length) {k j : Nat} {q q' : V.Req} {u : Value} (hq : s.rs[k]? = some q) (hj : j < 4) (he : (rcells q).set j u = rcells q') :
    (∃ u0, w.cell? ⟨g, o + k * 4 + j, none⟩ = some u0) ∧ w.frozen? ⟨g, o + k * 4 + j, none⟩ = false ∧ St a S w0 cs (.slice (some ⟨g, o, none⟩) n c) tv tn tx { s with rs := s.rs.set k q' } (w.setCell ⟨g, o + k * 4 + j, none⟩ u) := by
  subst hn
  obtain ⟨C, ⟨hb, ho⟩, back⟩ := h.req
  have hk : k < s.rs.length := (List.getElem?_eq_some_iff.1 hq).1
  obtain ⟨hC, hg, _⟩ := ho.blk
  have hcell := ho.cellAt (k * 4 + j) (by omega)
  rw [reqs_at _ _ _ _ hq hj, ← Nat.add_assoc] at hcell
  have hs : (w.setCell ⟨g, o + k * 4 + j, none⟩ u).heap.size = w.heap.size := by simp [World.setCell]
  refine ⟨⟨_, hcell.trans (List.getElem?_eq_getElem (by simpa [rcells] using hj))⟩, ho.freeAt _, back _ _ _ ⟨fun k hk => hk.2, ?_⟩ ?_⟩
  · have h1 := ho.put (k * 4 + j) (by omega) u
    rw [reqs_set _ _ _ _ _ _ hq hj he, ← Nat.add_assoc] at h1
    rw [List.length_set]
    exact h1.mono fun i _ hi => ⟨.inl hi, by rw [hs]; exact hb i hi⟩
  · exact (Chg.refl C w).set (fun _ => hC) u
theorem St.reqSetV {a : At} {S : Nat → Prop} {w0 : World} {cs : Array Value} {rv tv : Value} {tn : Nat} {tx : List Value} {s : V.Sys} {w : World} {g o n c : Nat} (h : St a S w0 cs rv tv tn tx s w) (hv : rv = .slice (some ⟨g, o, none⟩) n c) (hn : n = s.rs.length) {k j : Nat} {q q' : V.Req} {u : Value} (hq : s.rs[k]? = some q) (hj : j < 4) (he : (rcells q).set j u = rcells q') :
    (∃ u0, w.cell? ⟨g, o + k * 4 + j, none⟩ = some u0) ∧ w.frozen? ⟨g, o + k * 4 + j, none⟩ = false ∧ St a S w0 cs rv tv tn tx { s with rs := s.rs.set k q' } (w.setCell ⟨g, o + k * 4 + j, none⟩ u) := by
  subst hv
  exact h.reqSet hn hq hj he
theorem St.rform {a : At} {S : Nat → Prop} {w0 : World} {cs : Array Value} {rv tv : Value} {tn : Nat} {tx : List Value} {s : V.Sys} {w : World} (h : St a S w0 cs rv tv tn tx s w) (hn : 0 < s.rs.length) : ∃ g o c, rv = .slice (some ⟨g, o, none⟩) s.rs.length c := by
  obtain ⟨C, h1⟩ := h.rq
  obtain ⟨va, cap, e⟩ := h1.sl
  rw [e] at h1
  obtain ⟨g, o, rfl, _⟩ := h1.some_ hn
  exact ⟨g, o, cap, e⟩
set_option maxHeartbeats 2000000 in
theorem stand_any {a : At} {S : Nat → Prop} {w0 : World} {cs : Array Value} {rv tv : Value} {tn : Nat} {tx : List Value} {s : V.Sys} {w : World} (h : St a S w0 cs rv tv tn tx s w) (h22 : cs[22]? = some rv) (h20 : cs[20]? = some (.int .i64 s.now)) (k : Nat) (hk : k < s.rs.length) (hn : s.rs.length ≤ 1099511627776) (st : Int) :
    Calls Tryz.prog 53 #[.pointer (some ⟨a.p, 0, none⟩), .int .i64 k, .int .i64 st] w fun e w' => e = .returned (.tuple #[]) ∧ St a S w0 cs rv tv tn tx { s with rs := V.stand s.now st s.rs k } w' := by
  obtain ⟨q, hq⟩ : ∃ q, s.rs[k]? = some q := ⟨s.rs[k], List.getElem?_eq_getElem hk⟩
  obtain ⟨va, cap, rfl⟩ := h.rq.choose_spec.sl
  obtain ⟨g, o, rfl, _, _, _, _⟩ := h.rq.choose_spec.some_ (by omega)
  have hm : V.stand s.now st s.rs k = s.rs.set k { q with st := st, since := s.now } := by
    unfold V.stand
    rw [Int.toNat_natCast]
    exact modify_at _ _ _ _ hq
  rw [hm]
  obtain ⟨n, hnl⟩ : ∃ n, s.rs.length = n := ⟨_, rfl⟩
  rw [hnl] at h h22 hk
  have H := Lib.hid h
  have H22 := Lib.hid h22
  have H20 := Lib.hid h20
  have HQ := Lib.hid hq
  clear h h22 h20 hq hm
  go_enter Tryz.func53, Tryz.ntmps53
  go_wp2_with fail
  refine stand_at (by kernel_rfl) a.p g o n cap k st s.now (fun _ b0 b1 w' => St a S w0 cs (.slice (some ⟨g, o, none⟩) n cap) tv tn tx (cond b1 { s with rs := s.rs.set k { q with st := st, since := s.now } } (cond b0 { s with rs := s.rs.set k { q with st := st } } s)) w') hk
    (fun _ w' x => by rw [x.blk.cell]; exact H22.out) (fun _ w' x => by rw [x.blk.cell]; exact H20.out) (fun _ w' x => ?_) (fun _ w' x => ?_) _ rfl rfl rfl rfl () (H.out.no (Chg.refl No _).drew) fun _ w1 h1 => ?_
  · obtain ⟨⟨u0, h1⟩, h2, h3⟩ := St.reqSet (s := s) x hnl.symm (k := k) (j := 2) (u := .int .i64 st) (q' := { q with st := st }) HQ.out (by decide) rfl
    exact ⟨u0, h1, h2, h3⟩
  · have x' : St a S w0 cs (.slice (some ⟨g, o, none⟩) n cap) tv tn tx { s with rs := s.rs.set k { q with st := st } } w' := x
    obtain ⟨⟨u0, h1⟩, h2, h3⟩ := x'.reqSet (by show n = (s.rs.set k _).length; rw [List.length_set]; exact hnl.symm) (k := k) (j := 1) (u := .int .i64 s.now) (q := { q with st := st }) (q' := { q with st := st, since := s.now }) (by show (s.rs.set k _)[k]? = _; rw [List.getElem?_set_self (by omega)]) (by decide) rfl
    refine ⟨u0, h1, h2, ?_⟩
    have e : (s.rs.set k { q with st := st }).set k { q with st := st, since := s.now } = s.rs.set k { q with st := st, since := s.now } := List.set_set _
    have h4 : St a S w0 cs (.slice (some ⟨g, o, none⟩) n cap) tv tn tx { s with rs := (s.rs.set k { q with st := st }).set k { q with st := st, since := s.now } } (w'.setCell ⟨g, o + k * 4 + 1, none⟩ (.int .i64 s.now)) := h3
    rw [e] at h4
    exact h4
  · simp only [lay_stand, puts, List.setIfInBounds_toArray, List.set_cons_succ, List.set_cons_zero]
    have H1 := Lib.hid h1
    clear h1
    go_wp2_with fail
    go_end0
    subst hnl
    exact ⟨rfl, H1.out⟩
end Go.Proofs.YtdgphoemjeakaaaGreatDoor.Y
namespace Go.Proofs.YtdgphoemjeakaaaGreatDoor.Y
open Go.RowKit K P W Rg
theorem info48 : (Tryz.prog.info? 48).map (fun i => (i.zero, i.size, i.bytes)) = some (some (.agg #[.int .i64 0, .int .i64 0, .int .i64 0, .int .i64 0]), 4, 32) := by kernel_rfl
noncomputable def R_sent14 : Array Oper := reg Tryz.f51 14
theorem sent14_size : R_sent14.size = 12 := by kernel_rfl
noncomputable def lay_sent14 (p : Nat) (g : Nat) (of : Nat) (n : Nat) (c : Nat) (gi : Nat) (oi : Nat) (ni : Nat) (ci : Nat) (k : Nat) (kk : Nat) (pid : Int) (_ : Unit) : Lay := [(some 60, .pointer (some ⟨p, 0, none⟩)),
  (some 61, .pointer (some ⟨p, 0, none⟩)),
  (some 62, .pointer (some ⟨p, 22, none⟩)),
  (some 63, .slice (some ⟨g, of, none⟩) (n) (c)),
  (some 64, .int .i64 k),
  (some 65, .slice (some ⟨gi, oi, none⟩) (ni) (ci)),
  (some 66, .int .i64 kk),
  (some 67, .pointer (some ⟨gi, oi + kk, none⟩)),
  (some 68, .int .i64 pid),
  (some 69, .pointer (some ⟨g, of + k * 4, none⟩)),
  (some 70, .pointer (some ⟨g, of + k * 4 + 3, none⟩)),
  (none, undef)]
set_option maxRecDepth 1000000 in
theorem sent14_at {ops : Array Oper} (ho : ops = R_sent14) (p : Nat) (g : Nat) (of : Nat) (n : Nat) (c : Nat) (gi : Nat) (oi : Nat) (ni : Nat) (ci : Nat) (k : Nat) (kk : Nat) (pid : Int) (X : (Unit) → Bool → World → Prop) (hk : k < n) (hkk : kk < ni) (M3 : ∀ (x : (Unit)) (w : World), X x false w → w.cell? ⟨p, 22, none⟩ = some (.slice (some ⟨g, of, none⟩) (n) (c))) (M8 : ∀ (x : (Unit)) (w : World), X x false w → w.cell? ⟨gi, oi + kk, none⟩ = some (.int .i64 pid)) (S11 : ∀ (x : (Unit)) (w : World), X x false w → ∃ u0, w.cell? ⟨g, of + k * 4 + 3, none⟩ = some u0 ∧ w.frozen? ⟨g, of + k * 4 + 3, none⟩ = false ∧ X x true (w.setCell ⟨g, of + k * 4 + 3, none⟩ (.int .i64 pid))) (t0 : Array Value) (hz : t0.size = 78) (ht0 : t0[0]? = some (.pointer (some ⟨p, 0, none⟩))) (ht2 : t0[2]? = some (.slice (some ⟨gi, oi, none⟩) (ni) (ci))) (ht6 : t0[6]? = some (.int .i64 kk)) (ht7 : t0[7]? = some (.int .i64 k)) {id : Nat} {Q : Exit → Act → World → Prop} {w : World} (x0 : (Unit)) (start : X x0 false w.drew) (fin : ∀ x w', X x true w' → Q .normal ⟨puts ((lay_sent14 p g of n c gi oi ni ci k kk pid) x) t0, []⟩ w') : (Code.region id ops true).wp Tryz.prog Q ⟨t0, []⟩ w := by
  subst ho
  have F : Flows (X := (Unit)) R_sent14 (lay_sent14 p g of n c gi oi ni ci k kk pid) [(0, .pointer (some ⟨p, 0, none⟩)), (2, .slice (some ⟨gi, oi, none⟩) (ni) (ci)), (6, .int .i64 kk), (7, .int .i64 k)] t0 9 := Flows.of (by kernel_rfl) hz (fun _ => by kernel_rfl) (.cons ht0 (.cons ht2 (.cons ht6 (.cons ht7 .nil))))
  refine wp_flow (Wd := (fun x L => X x (L 11))) F rfl x0 start (fun i hi => ?_) (fun x L w' hl hw => fin x w' ?_)
  · rw [sent14_size] at hi
    match i, hi with
    | 0, _ => exact stepP F rfl (fun _ => rfl) (fun _ _ => by kernel_rfl) (fun _ => rfl) (fun _ _ _ h => h)
    | 1, _ => exact stepP F rfl (fun _ => rfl) (fun _ _ => by kernel_rfl) (fun _ => rfl) (fun _ _ _ h => h)
    | 2, _ => exact stepP F rfl (fun _ => rfl) (fun _ _ => by kernel_rfl) (fun _ => rfl) (fun _ _ _ h => h)
    | 3, _ => exact stepL (fun _ => ⟨p, 22, none⟩) F rfl (fun _ => rfl) (fun _ => rfl) rfl (fun _ => rfl) Tryz.underlying45 rfl (fun x L w z1 z2 z3 h => by
      have h : X x (L 11) w := h
      have e11 := fls z3 9 11 (by kernel_rfl)
      simp only [e11] at h ⊢
      exact ⟨M3 x  w h, h⟩)
    | 4, _ => exact stepP F rfl (fun _ => rfl) (fun _ _ => by kernel_rfl) (fun _ => rfl) (fun _ _ _ h => h)
    | 5, _ => exact stepP F rfl (fun _ => rfl) (fun _ _ => by kernel_rfl) (fun _ => rfl) (fun _ _ _ h => h)
    | 6, _ => exact stepP F rfl (fun _ => rfl) (fun _ _ => by kernel_rfl) (fun _ => rfl) (fun _ _ _ h => h)
    | 7, _ => exact stepI (fun _ => (gi, oi, kk, ni)) (fun _ => ci) 1 F rfl (fun _ => rfl) (fun _ => rfl) rfl (fun _ => rfl) (fun _ => rfl) (fun _ => by assumption) Tryz.underlying76 (by kernel_rfl) (fun _ => by simp) (fun _ _ _ h => h)
    | 8, _ => exact stepL (fun _ => ⟨gi, oi + kk, none⟩) F rfl (fun _ => rfl) (fun _ => rfl) rfl (fun _ => rfl) Tryz.underlying3 rfl (fun x L w z1 z2 z3 h => by
      have h : X x (L 11) w := h
      have e11 := fls z3 9 11 (by kernel_rfl)
      simp only [e11] at h ⊢
      exact ⟨M8 x  w h, h⟩)
    | 9, _ => exact stepI (fun _ => (g, of, k, n)) (fun _ => c) 4 F rfl (fun _ => rfl) (fun _ => rfl) rfl (fun _ => rfl) (fun _ => rfl) (fun _ => by assumption) Tryz.underlying45 (by kernel_rfl) (fun _ => by simp) (fun _ _ _ h => h)
    | 10, _ => exact stepP F rfl (fun _ => rfl) (fun _ _ => by kernel_rfl) (fun _ => rfl) (fun _ _ _ h => h)
    | 11, _ => exact stepS (fun _ => (g, of + k * 4 + 3)) F rfl (fun _ => rfl) (fun _ => rfl) rfl rfl (fun _ => rfl) (fun _ => rfl) (by kernel_rfl) (fun _ => rfl) (fun x L w z1 z2 z3 h => by
      have h : X x (L 11) w := h
      have e11 : L 11 = false := z1
      simp only [e11] at h ⊢
      obtain ⟨u0, c0, g0, hx⟩ := S11 x  w h
      exact ⟨⟨u0, c0⟩, g0, hx⟩)
    | n + 12, h => exact absurd h (by omega)
  · have hw : X x (L 11) w' := hw
    rw [hl 11 (by rw [sent14_size]; omega)] at hw
    exact hw
noncomputable def R_sent15 : Array Oper := reg Tryz.f51 15
theorem sent15_size : R_sent15.size = 7 := by kernel_rfl
noncomputable def lay_sent15 (p : Nat) (l : Nat) (gi : Nat) (oi : Nat) (ni : Nat) (ci : Nat) (kk : Nat) (pid : Int) (cd : Int) (_ : Unit) : Lay := [(some 71, .pointer (some ⟨p, 0, none⟩)),
  (some 72, .pointer (some ⟨l, 0, none⟩)),
  (some 73, .slice (some ⟨gi, oi, none⟩) (ni) (ci)),
  (some 74, .int .i64 kk),
  (some 75, .pointer (some ⟨gi, oi + kk, none⟩)),
  (some 76, .int .i64 pid),
  (some 77, .int .i64 cd)]
set_option maxRecDepth 1000000 in
theorem sent15_at {ops : Array Oper} (ho : ops = R_sent15) (p : Nat) (l : Nat) (gi : Nat) (oi : Nat) (ni : Nat) (ci : Nat) (kk : Nat) (pid : Int) (cd : Int) (X : (Unit) → Bool → World → Prop) (hkk : kk < ni) (M5 : ∀ (x : (Unit)) (w : World), X x false w → w.cell? ⟨gi, oi + kk, none⟩ = some (.int .i64 pid)) (C1 : ∀ (x : (Unit)) (w : World), X x false w → Calls Tryz.prog 21 #[.pointer (some ⟨p, 0, none⟩)] w fun e w' => e = .returned (.pointer (some ⟨l, 0, none⟩)) ∧ X x false w') (C6 : ∀ (x : (Unit)) (w : World), X x false w → Calls Tryz.prog 80 #[.pointer (some ⟨l, 0, none⟩), .int .i64 pid] w fun e w' => e = .returned (.int .i64 cd) ∧ X x true w') (t0 : Array Value) (hz : t0.size = 78) (ht0 : t0[0]? = some (.pointer (some ⟨p, 0, none⟩))) (ht2 : t0[2]? = some (.slice (some ⟨gi, oi, none⟩) (ni) (ci))) (ht6 : t0[6]? = some (.int .i64 kk)) {id : Nat} {Q : Exit → Act → World → Prop} {w : World} (x0 : (Unit)) (start : X x0 false w.drew) (fin : ∀ x w', X x true w' → Q .normal ⟨puts ((lay_sent15 p l gi oi ni ci kk pid cd) x) t0, []⟩ w') : (Code.region id ops true).wp Tryz.prog Q ⟨t0, []⟩ w := by
  subst ho
  have F : Flows (X := (Unit)) R_sent15 (lay_sent15 p l gi oi ni ci kk pid cd) [(0, .pointer (some ⟨p, 0, none⟩)), (2, .slice (some ⟨gi, oi, none⟩) (ni) (ci)), (6, .int .i64 kk)] t0 9 := Flows.of (by kernel_rfl) hz (fun _ => by kernel_rfl) (.cons ht0 (.cons ht2 (.cons ht6 .nil)))
  refine wp_flow (Wd := (fun x L => X x (L 6))) F rfl x0 start (fun i hi => ?_) (fun x L w' hl hw => fin x w' ?_)
  · rw [sent15_size] at hi
    match i, hi with
    | 0, _ => exact stepP F rfl (fun _ => rfl) (fun _ _ => by kernel_rfl) (fun _ => rfl) (fun _ _ _ h => h)
    | 1, _ => exact stepC 21 (fun _ => #[.pointer (some ⟨p, 0, none⟩)]) F rfl (fun _ => rfl) (fun _ => rfl) (fun _ _ => by kernel_rfl) (fun x L w z1 z2 z3 h => by
      have h : X x (L 6) w := h
      have e6 := fls z3 9 6 (by kernel_rfl)
      simp only [e6] at h ⊢
      exact C1 x  w h)
    | 2, _ => exact stepP F rfl (fun _ => rfl) (fun _ _ => by kernel_rfl) (fun _ => rfl) (fun _ _ _ h => h)
    | 3, _ => exact stepP F rfl (fun _ => rfl) (fun _ _ => by kernel_rfl) (fun _ => rfl) (fun _ _ _ h => h)
    | 4, _ => exact stepI (fun _ => (gi, oi, kk, ni)) (fun _ => ci) 1 F rfl (fun _ => rfl) (fun _ => rfl) rfl (fun _ => rfl) (fun _ => rfl) (fun _ => by assumption) Tryz.underlying76 (by kernel_rfl) (fun _ => by simp) (fun _ _ _ h => h)
    | 5, _ => exact stepL (fun _ => ⟨gi, oi + kk, none⟩) F rfl (fun _ => rfl) (fun _ => rfl) rfl (fun _ => rfl) Tryz.underlying3 rfl (fun x L w z1 z2 z3 h => by
      have h : X x (L 6) w := h
      have e6 := fls z3 9 6 (by kernel_rfl)
      simp only [e6] at h ⊢
      exact ⟨M5 x  w h, h⟩)
    | 6, _ => exact stepC 80 (fun _ => #[.pointer (some ⟨l, 0, none⟩), .int .i64 pid]) F rfl (fun _ => rfl) (fun _ => rfl) (fun _ _ => by kernel_rfl) (fun x L w z1 z2 z3 h => by
      have h : X x (L 6) w := h
      have e6 : L 6 = false := z1
      simp only [e6] at h ⊢
      exact C6 x  w h)
    | n + 7, h => exact absurd h (by omega)
  · have hw : X x (L 6) w' := hw
    rw [hl 6 (by rw [sent15_size]; omega)] at hw
    exact hw
noncomputable def R_arr1 : Array Oper := reg Tryz.f27 1
theorem arr1_size : R_arr1.size = 19 := by kernel_rfl
noncomputable def lay_arr1 (p : Nat) (va : Option Addr) (n : Nat) (c : Nat) (now : Int) (x : Nat × (Option Addr × Nat)) : Lay := [(some 8, .pointer (some ⟨p, 0, none⟩)),
  (some 9, .pointer (some ⟨p, 0, none⟩)),
  (some 10, .pointer (some ⟨p, 0, none⟩)),
  (some 11, .pointer (some ⟨p, 22, none⟩)),
  (some 12, .slice (va) (n) (c)),
  (some 13, .pointer (some ⟨p, 0, none⟩)),
  (some 14, .pointer (some ⟨p, 0, none⟩)),
  (some 15, .pointer (some ⟨p, 20, none⟩)),
  (some 16, .int .i64 now),
  (some 17, .pointer (some ⟨p, 0, none⟩)),
  (some 18, .pointer (some ⟨p, 0, none⟩)),
  (some 19, .pointer (some ⟨p, 20, none⟩)),
  (some 20, .int .i64 now),
  (some 21, .agg #[.int .i64 now, .int .i64 now, .int .i64 1, .int .i64 (-1)]),
  (some 22, .slice (some ⟨x.1, 0, none⟩) (1) (1)),
  (some 23, .slice (x.2.1) (n + 1) (x.2.2)),
  (some 24, .pointer (some ⟨p, 0, none⟩)),
  (some 25, .pointer (some ⟨p, 22, none⟩)),
  (none, undef)]
set_option maxRecDepth 1000000 in
theorem arr1_at {ops : Array Oper} (ho : ops = R_arr1) (p : Nat) (va : Option Addr) (n : Nat) (c : Nat) (now : Int) (X : (Nat × (Option Addr × Nat)) → Bool → Bool → Bool → World → Prop)  (M4 : ∀ (x : (Nat × (Option Addr × Nat))) (b0 : Bool) (w : World), X x b0 false false w → w.cell? ⟨p, 22, none⟩ = some (.slice (va) (n) (c))) (M8 : ∀ (x : (Nat × (Option Addr × Nat))) (w : World), X x false false false w → w.cell? ⟨p, 20, none⟩ = some (.int .i64 now)) (B14 : ∀ (x : (Nat × (Option Addr × Nat))) (w : World), X x false false false w → X (w.heap.size, x.2) true false false (w.alloc (.cells #[.int .i64 now, .int .i64 now, .int .i64 1, .int .i64 (-1)] 48))) (B15 : ∀ (x : (Nat × (Option Addr × Nat))) (w : World), X x true false false w → ∃ (S : Nat → Prop) (xs : List Value), Own w S 48 4 (.slice (va) (n) (c)) (n) xs ∧ (∀ j u, ([.int .i64 now, .int .i64 now, .int .i64 1, .int .i64 (-1)] : List Value)[j]? = some u → w.cell? ((⟨x.1, 0, none⟩ : Addr).add j) = some u) ∧ (n) + 1 ≤ maxLen ∧ ((n) + 1) * 32 ≤ 140737488355328 ∧ ∀ g' o' c' w', Own w' (nx S w w') 48 4 (.slice (some ⟨g', o', none⟩) ((n) + 1) c') ((n) + 1) (xs ++ [.int .i64 now, .int .i64 now, .int .i64 1, .int .i64 (-1)]) → Chg S w w' → X (x.1, (some ⟨g', o', none⟩, c')) true true false w') (S18 : ∀ (x : (Nat × (Option Addr × Nat))) (w : World), X x true true false w → ∃ u0, w.cell? ⟨p, 22, none⟩ = some u0 ∧ w.frozen? ⟨p, 22, none⟩ = false ∧ X x true true true (w.setCell ⟨p, 22, none⟩ (.slice (x.2.1) (n + 1) (x.2.2)))) (t0 : Array Value) (hz : t0.size = 44) (ht0 : t0[0]? = some (.pointer (some ⟨p, 0, none⟩))) {id : Nat} {Q : Exit → Act → World → Prop} {w : World} (x0 : (Nat × (Option Addr × Nat))) (start : X x0 false false false w.drew) (fin : ∀ x w', X x true true true w' → Q .normal ⟨puts ((lay_arr1 p va n c now) x) t0, []⟩ w') : (Code.region id ops true).wp Tryz.prog Q ⟨t0, []⟩ w := by
  subst ho
  have F : Flows (X := (Nat × (Option Addr × Nat))) R_arr1 (lay_arr1 p va n c now) [(0, .pointer (some ⟨p, 0, none⟩))] t0 9 := Flows.of (by kernel_rfl) hz (fun _ => by kernel_rfl) (.cons ht0 .nil)
  refine wp_flow (Wd := (fun x L => X x (L 14) (L 15) (L 18))) F rfl x0 start (fun i hi => ?_) (fun x L w' hl hw => fin x w' ?_)
  · rw [arr1_size] at hi
    match i, hi with
    | 0, _ => exact stepP F rfl (fun _ => rfl) (fun _ _ => by kernel_rfl) (fun _ => rfl) (fun _ _ _ h => h)
    | 1, _ => exact stepP F rfl (fun _ => rfl) (fun _ _ => by kernel_rfl) (fun _ => rfl) (fun _ _ _ h => h)
    | 2, _ => exact stepP F rfl (fun _ => rfl) (fun _ _ => by kernel_rfl) (fun _ => rfl) (fun _ _ _ h => h)
    | 3, _ => exact stepP F rfl (fun _ => rfl) (fun _ _ => by kernel_rfl) (fun _ => rfl) (fun _ _ _ h => h)
    | 4, _ => exact stepL (fun _ => ⟨p, 22, none⟩) F rfl (fun _ => rfl) (fun _ => rfl) rfl (fun _ => rfl) Tryz.underlying45 rfl (fun x L w z1 z2 z3 h => by
      have h : X x (L 14) (L 15) (L 18) w := h
      have e15 := fls z3 9 15 (by kernel_rfl)
      have e18 := fls z3 9 18 (by kernel_rfl)
      simp only [e15, e18] at h ⊢
      exact ⟨M4 x _ w h, h⟩)
    | 5, _ => exact stepP F rfl (fun _ => rfl) (fun _ _ => by kernel_rfl) (fun _ => rfl) (fun _ _ _ h => h)
    | 6, _ => exact stepP F rfl (fun _ => rfl) (fun _ _ => by kernel_rfl) (fun _ => rfl) (fun _ _ _ h => h)
    | 7, _ => exact stepP F rfl (fun _ => rfl) (fun _ _ => by kernel_rfl) (fun _ => rfl) (fun _ _ _ h => h)
    | 8, _ => exact stepL (fun _ => ⟨p, 20, none⟩) F rfl (fun _ => rfl) (fun _ => rfl) rfl (fun _ => rfl) Tryz.underlying2 rfl (fun x L w z1 z2 z3 h => by
      have h : X x (L 14) (L 15) (L 18) w := h
      have e14 := fls z3 9 14 (by kernel_rfl)
      have e15 := fls z3 9 15 (by kernel_rfl)
      have e18 := fls z3 9 18 (by kernel_rfl)
      simp only [e14, e15, e18] at h ⊢
      exact ⟨M8 x  w h, h⟩)
    | 9, _ => exact stepP F rfl (fun _ => rfl) (fun _ _ => by kernel_rfl) (fun _ => rfl) (fun _ _ _ h => h)
    | 10, _ => exact stepP F rfl (fun _ => rfl) (fun _ _ => by kernel_rfl) (fun _ => rfl) (fun _ _ _ h => h)
    | 11, _ => exact stepP F rfl (fun _ => rfl) (fun _ _ => by kernel_rfl) (fun _ => rfl) (fun _ _ _ h => h)
    | 12, _ => exact stepL (fun _ => ⟨p, 20, none⟩) F rfl (fun _ => rfl) (fun _ => rfl) rfl (fun _ => rfl) Tryz.underlying2 rfl (fun x L w z1 z2 z3 h => by
      have h : X x (L 14) (L 15) (L 18) w := h
      have e14 := fls z3 9 14 (by kernel_rfl)
      have e15 := fls z3 9 15 (by kernel_rfl)
      have e18 := fls z3 9 18 (by kernel_rfl)
      simp only [e14, e15, e18] at h ⊢
      exact ⟨M8 x  w h, h⟩)
    | 13, _ => exact stepP F rfl (fun _ => rfl) (fun _ _ => by kernel_rfl) (fun _ => rfl) (fun _ _ _ h => h)
    | 14, _ => exact stepM (fun x z => (z, x.2)) (fun _ z => .slice (some ⟨z, 0, none⟩) (1) (1)) (fun _ => .cells #[.int .i64 now, .int .i64 now, .int .i64 1, .int .i64 (-1)] 48) F rfl (fun _ => rfl) (fun _ _ => by kernel_rfl) (fun _ _ => rfl) (fun x L w z1 z2 z3 h => by
      have h : X x (L 14) (L 15) (L 18) w := h
      have e14 : L 14 = false := z1
      have e15 := fls z3 9 15 (by kernel_rfl)
      have e18 := fls z3 9 18 (by kernel_rfl)
      simp only [e14, e15, e18] at h ⊢
      exact ⟨but_all (D := [14, 15, 18]) (desc 9 z1 z3 (by kernel_rfl)) rfl, B14 x  w h⟩)
    | 15, _ => exact stepA (fun x y => (x.1, y)) (.tmp 12) (.tmp 22) 45 (fun _ => .slice (va) (n) (c)) (fun x => (x.1, n)) F rfl (fun _ => rfl) rfl (fun _ => rfl) (fun _ => rfl) (fun _ _ => rfl) Tryz.underlying45 (fun _ => [.int .i64 now, .int .i64 now, .int .i64 1, .int .i64 (-1)]) info48 rfl (fun _ => rfl) (fun _ => rfl) (fun x L w z1 z2 z3 h => by
      have h : X x (L 14) (L 15) (L 18) w := h
      have e14 := z2 14 (by kernel_rfl)
      have e15 : L 15 = false := z1
      have e18 := fls z3 9 18 (by kernel_rfl)
      simp only [e14, e15, e18] at h ⊢
      obtain ⟨S, xs, hown, hnews, h63, hby, hK⟩ := B15 x  w h
      exact ⟨S, xs, hown, hnews, h63, hby, fun g' o' c' w' ho' hc' => ⟨but_all (D := [15, 18]) (desc 9 z1 z3 (by kernel_rfl)) rfl, hK g' o' c' w' ho' hc'⟩⟩)
    | 16, _ => exact stepP F rfl (fun _ => rfl) (fun _ _ => by kernel_rfl) (fun _ => rfl) (fun _ _ _ h => h)
    | 17, _ => exact stepP F rfl (fun _ => rfl) (fun _ _ => by kernel_rfl) (fun _ => rfl) (fun _ _ _ h => h)
    | 18, _ => exact stepS (fun _ => (p, 22)) F rfl (fun _ => rfl) (fun _ => rfl) rfl rfl (fun _ => rfl) (fun _ => rfl) (by kernel_rfl) (fun _ => rfl) (fun x L w z1 z2 z3 h => by
      have h : X x (L 14) (L 15) (L 18) w := h
      have e14 := z2 14 (by kernel_rfl)
      have e15 := z2 15 (by kernel_rfl)
      have e18 : L 18 = false := z1
      simp only [e14, e15, e18] at h ⊢
      obtain ⟨u0, c0, g0, hx⟩ := S18 x  w h
      exact ⟨⟨u0, c0⟩, g0, hx⟩)
    | n + 19, h => exact absurd h (by omega)
  · have hw : X x (L 14) (L 15) (L 18) w' := hw
    rw [hl 14 (by rw [arr1_size]; omega), hl 15 (by rw [arr1_size]; omega), hl 18 (by rw [arr1_size]; omega)] at hw
    exact hw
noncomputable def R_arr2 : Array Oper := reg Tryz.f27 2
theorem arr2_size : R_arr2.size = 9 := by kernel_rfl
noncomputable def lay_arr2 (p : Nat) (q : Nat) (k : Nat) (now : Int) (cd : Int) (_ : Unit) : Lay := [(some 26, .pointer (some ⟨p, 0, none⟩)),
  (some 27, .pointer (some ⟨q, 0, none⟩)),
  (some 28, .int .i64 k),
  (some 29, .pointer (some ⟨p, 0, none⟩)),
  (some 30, .pointer (some ⟨p, 0, none⟩)),
  (some 31, .pointer (some ⟨p, 20, none⟩)),
  (some 32, .int .i64 now),
  (some 33, .int .i64 cd),
  (some 34, .bool (cd != 0))]
set_option maxRecDepth 1000000 in
theorem arr2_at {ops : Array Oper} (ho : ops = R_arr2) (p : Nat) (q : Nat) (k : Nat) (now : Int) (cd : Int) (X : (Unit) → Bool → World → Prop)  (M6 : ∀ (x : (Unit)) (w : World), X x false w → w.cell? ⟨p, 20, none⟩ = some (.int .i64 now)) (C1 : ∀ (x : (Unit)) (w : World), X x false w → Calls Tryz.prog 33 #[.pointer (some ⟨p, 0, none⟩)] w fun e w' => e = .returned (.pointer (some ⟨q, 0, none⟩)) ∧ X x false w') (C7 : ∀ (x : (Unit)) (w : World), X x false w → Calls Tryz.prog 50 #[.pointer (some ⟨q, 0, none⟩), .int .i64 k, .int .i64 now] w fun e w' => e = .returned (.int .i64 cd) ∧ X x true w') (t0 : Array Value) (hz : t0.size = 44) (ht0 : t0[0]? = some (.pointer (some ⟨p, 0, none⟩))) (ht2 : t0[2]? = some (.int .i64 k)) {id : Nat} {Q : Exit → Act → World → Prop} {w : World} (x0 : (Unit)) (start : X x0 false w.drew) (fin : ∀ x w', X x true w' → Q .normal ⟨puts ((lay_arr2 p q k now cd) x) t0, []⟩ w') : (Code.region id ops true).wp Tryz.prog Q ⟨t0, []⟩ w := by
  subst ho
  have F : Flows (X := (Unit)) R_arr2 (lay_arr2 p q k now cd) [(0, .pointer (some ⟨p, 0, none⟩)), (2, .int .i64 k)] t0 9 := Flows.of (by kernel_rfl) hz (fun _ => by kernel_rfl) (.cons ht0 (.cons ht2 .nil))
  refine wp_flow (Wd := (fun x L => X x (L 7))) F rfl x0 start (fun i hi => ?_) (fun x L w' hl hw => fin x w' ?_)
  · rw [arr2_size] at hi
    match i, hi with
    | 0, _ => exact stepP F rfl (fun _ => rfl) (fun _ _ => by kernel_rfl) (fun _ => rfl) (fun _ _ _ h => h)
    | 1, _ => exact stepC 33 (fun _ => #[.pointer (some ⟨p, 0, none⟩)]) F rfl (fun _ => rfl) (fun _ => rfl) (fun _ _ => by kernel_rfl) (fun x L w z1 z2 z3 h => by
      have h : X x (L 7) w := h
      have e7 := fls z3 9 7 (by kernel_rfl)
      simp only [e7] at h ⊢
      exact C1 x  w h)
    | 2, _ => exact stepP F rfl (fun _ => rfl) (fun _ _ => by kernel_rfl) (fun _ => rfl) (fun _ _ _ h => h)
    | 3, _ => exact stepP F rfl (fun _ => rfl) (fun _ _ => by kernel_rfl) (fun _ => rfl) (fun _ _ _ h => h)
    | 4, _ => exact stepP F rfl (fun _ => rfl) (fun _ _ => by kernel_rfl) (fun _ => rfl) (fun _ _ _ h => h)
    | 5, _ => exact stepP F rfl (fun _ => rfl) (fun _ _ => by kernel_rfl) (fun _ => rfl) (fun _ _ _ h => h)
    | 6, _ => exact stepL (fun _ => ⟨p, 20, none⟩) F rfl (fun _ => rfl) (fun _ => rfl) rfl (fun _ => rfl) Tryz.underlying2 rfl (fun x L w z1 z2 z3 h => by
      have h : X x (L 7) w := h
      have e7 := fls z3 9 7 (by kernel_rfl)
      simp only [e7] at h ⊢
      exact ⟨M6 x  w h, h⟩)
    | 7, _ => exact stepC 50 (fun _ => #[.pointer (some ⟨q, 0, none⟩), .int .i64 k, .int .i64 now]) F rfl (fun _ => rfl) (fun _ => rfl) (fun _ _ => by kernel_rfl) (fun x L w z1 z2 z3 h => by
      have h : X x (L 7) w := h
      have e7 : L 7 = false := z1
      simp only [e7] at h ⊢
      exact C7 x  w h)
    | 8, _ => exact stepP F rfl (fun _ => rfl) (fun _ _ => by kernel_rfl) (fun _ => rfl) (fun _ _ _ h => h)
    | n + 9, h => exact absurd h (by omega)
  · have hw : X x (L 7) w' := hw
    rw [hl 7 (by rw [arr2_size]; omega)] at hw
    exact hw
noncomputable def R_fin5 : Array Oper := reg Tryz.f28 5
theorem fin5_size : R_fin5.size = 14 := by kernel_rfl
noncomputable def lay_fin5 (p : Nat) (g : Nat) (of : Nat) (n : Nat) (c : Nat) (gi : Nat) (oi : Nat) (ni : Nat) (ci : Nat) (l : Nat) (nn : Nat) (k : Nat) (pod : Int) (cd : Int) (_ : Unit) : Lay := [(some 18, .pointer (some ⟨p, 0, none⟩)),
  (some 19, .pointer (some ⟨l, 0, none⟩)),
  (some 20, .pointer (some ⟨p, 0, none⟩)),
  (some 21, .pointer (some ⟨p, 0, none⟩)),
  (some 22, .pointer (some ⟨p, 22, none⟩)),
  (some 23, .slice (some ⟨g, of, none⟩) (n) (c)),
  (some 24, .slice (some ⟨gi, oi, none⟩) (ni) (ci)),
  (some 25, .int .i64 nn),
  (some 26, .pointer (some ⟨gi, oi + nn, none⟩)),
  (some 27, .int .i64 k),
  (some 28, .pointer (some ⟨g, of + k * 4, none⟩)),
  (some 29, .pointer (some ⟨g, of + k * 4 + 3, none⟩)),
  (some 30, .int .i64 pod),
  (some 31, .int .i64 cd)]
set_option maxRecDepth 1000000 in
theorem fin5_at {ops : Array Oper} (ho : ops = R_fin5) (p : Nat) (g : Nat) (of : Nat) (n : Nat) (c : Nat) (gi : Nat) (oi : Nat) (ni : Nat) (ci : Nat) (l : Nat) (nn : Nat) (k : Nat) (pod : Int) (cd : Int) (X : (Unit) → Bool → World → Prop) (hk : k < n) (hnn : nn < ni) (M5 : ∀ (x : (Unit)) (w : World), X x false w → w.cell? ⟨p, 22, none⟩ = some (.slice (some ⟨g, of, none⟩) (n) (c))) (M9 : ∀ (x : (Unit)) (w : World), X x false w → w.cell? ⟨gi, oi + nn, none⟩ = some (.int .i64 k)) (M12 : ∀ (x : (Unit)) (w : World), X x false w → w.cell? ⟨g, of + k * 4 + 3, none⟩ = some (.int .i64 pod)) (C1 : ∀ (x : (Unit)) (w : World), X x false w → Calls Tryz.prog 21 #[.pointer (some ⟨p, 0, none⟩)] w fun e w' => e = .returned (.pointer (some ⟨l, 0, none⟩)) ∧ X x false w') (C13 : ∀ (x : (Unit)) (w : World), X x false w → Calls Tryz.prog 54 #[.pointer (some ⟨l, 0, none⟩), .int .i64 pod] w fun e w' => e = .returned (.int .i64 cd) ∧ X x true w') (t0 : Array Value) (hz : t0.size = 34) (ht0 : t0[0]? = some (.pointer (some ⟨p, 0, none⟩))) (ht1 : t0[1]? = some (.int .i64 nn)) (ht5 : t0[5]? = some (.slice (some ⟨gi, oi, none⟩) (ni) (ci))) {id : Nat} {Q : Exit → Act → World → Prop} {w : World} (x0 : (Unit)) (start : X x0 false w.drew) (fin : ∀ x w', X x true w' → Q .normal ⟨puts ((lay_fin5 p g of n c gi oi ni ci l nn k pod cd) x) t0, []⟩ w') : (Code.region id ops true).wp Tryz.prog Q ⟨t0, []⟩ w := by
  subst ho
  have F : Flows (X := (Unit)) R_fin5 (lay_fin5 p g of n c gi oi ni ci l nn k pod cd) [(0, .pointer (some ⟨p, 0, none⟩)), (1, .int .i64 nn), (5, .slice (some ⟨gi, oi, none⟩) (ni) (ci))] t0 9 := Flows.of (by kernel_rfl) hz (fun _ => by kernel_rfl) (.cons ht0 (.cons ht1 (.cons ht5 .nil)))
  refine wp_flow (Wd := (fun x L => X x (L 13))) F rfl x0 start (fun i hi => ?_) (fun x L w' hl hw => fin x w' ?_)
  · rw [fin5_size] at hi
    match i, hi with
    | 0, _ => exact stepP F rfl (fun _ => rfl) (fun _ _ => by kernel_rfl) (fun _ => rfl) (fun _ _ _ h => h)
    | 1, _ => exact stepC 21 (fun _ => #[.pointer (some ⟨p, 0, none⟩)]) F rfl (fun _ => rfl) (fun _ => rfl) (fun _ _ => by kernel_rfl) (fun x L w z1 z2 z3 h => by
      have h : X x (L 13) w := h
      have e13 := fls z3 9 13 (by kernel_rfl)
      simp only [e13] at h ⊢
      exact C1 x  w h)
    | 2, _ => exact stepP F rfl (fun _ => rfl) (fun _ _ => by kernel_rfl) (fun _ => rfl) (fun _ _ _ h => h)
    | 3, _ => exact stepP F rfl (fun _ => rfl) (fun _ _ => by kernel_rfl) (fun _ => rfl) (fun _ _ _ h => h)
    | 4, _ => exact stepP F rfl (fun _ => rfl) (fun _ _ => by kernel_rfl) (fun _ => rfl) (fun _ _ _ h => h)
    | 5, _ => exact stepL (fun _ => ⟨p, 22, none⟩) F rfl (fun _ => rfl) (fun _ => rfl) rfl (fun _ => rfl) Tryz.underlying45 rfl (fun x L w z1 z2 z3 h => by
      have h : X x (L 13) w := h
      have e13 := fls z3 9 13 (by kernel_rfl)
      simp only [e13] at h ⊢
      exact ⟨M5 x  w h, h⟩)
    | 6, _ => exact stepP F rfl (fun _ => rfl) (fun _ _ => by kernel_rfl) (fun _ => rfl) (fun _ _ _ h => h)
    | 7, _ => exact stepP F rfl (fun _ => rfl) (fun _ _ => by kernel_rfl) (fun _ => rfl) (fun _ _ _ h => h)
    | 8, _ => exact stepI (fun _ => (gi, oi, nn, ni)) (fun _ => ci) 1 F rfl (fun _ => rfl) (fun _ => rfl) rfl (fun _ => rfl) (fun _ => rfl) (fun _ => by assumption) Tryz.underlying76 (by kernel_rfl) (fun _ => by simp) (fun _ _ _ h => h)
    | 9, _ => exact stepL (fun _ => ⟨gi, oi + nn, none⟩) F rfl (fun _ => rfl) (fun _ => rfl) rfl (fun _ => rfl) Tryz.underlying3 rfl (fun x L w z1 z2 z3 h => by
      have h : X x (L 13) w := h
      have e13 := fls z3 9 13 (by kernel_rfl)
      simp only [e13] at h ⊢
      exact ⟨M9 x  w h, h⟩)
    | 10, _ => exact stepI (fun _ => (g, of, k, n)) (fun _ => c) 4 F rfl (fun _ => rfl) (fun _ => rfl) rfl (fun _ => rfl) (fun _ => rfl) (fun _ => by assumption) Tryz.underlying45 (by kernel_rfl) (fun _ => by simp) (fun _ _ _ h => h)
    | 11, _ => exact stepP F rfl (fun _ => rfl) (fun _ _ => by kernel_rfl) (fun _ => rfl) (fun _ _ _ h => h)
    | 12, _ => exact stepL (fun _ => ⟨g, of + k * 4 + 3, none⟩) F rfl (fun _ => rfl) (fun _ => rfl) rfl (fun _ => rfl) Tryz.underlying3 rfl (fun x L w z1 z2 z3 h => by
      have h : X x (L 13) w := h
      have e13 := fls z3 9 13 (by kernel_rfl)
      simp only [e13] at h ⊢
      exact ⟨M12 x  w h, h⟩)
    | 13, _ => exact stepC 54 (fun _ => #[.pointer (some ⟨l, 0, none⟩), .int .i64 pod]) F rfl (fun _ => rfl) (fun _ => rfl) (fun _ _ => by kernel_rfl) (fun x L w z1 z2 z3 h => by
      have h : X x (L 13) w := h
      have e13 : L 13 = false := z1
      simp only [e13] at h ⊢
      exact C13 x  w h)
    | n + 14, h => exact absurd h (by omega)
  · have hw : X x (L 13) w' := hw
    rw [hl 13 (by rw [fin5_size]; omega)] at hw
    exact hw
end Go.Proofs.YtdgphoemjeakaaaGreatDoor.Y
