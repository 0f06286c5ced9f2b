/- Rings of whatever numbers: old, forget. Rings of whatever numbers: forget, Put. Rings of whatever numbers: Put. Rings of whatever numbers: Sum, Mean, Over, New, Resize. Rings of whatever numbers: Mean, Over, New, Resize. -/
import Derived.Test.YtdgphoemjeakaaaGreatDoorR02
import Derived.Test.YtdgphoemjeakaaaGreatDoorR14
import Derived.Test.YtdgphoemjeakaaaGreatDoorR01
namespace Go.Proofs.YtdgphoemjeakaaaGreatDoor.Wr
open Go.RowKit Go.Shelf K
set_option maxRecDepth 100000
abbrev Bw := Int × Int × Int × Bool
def bcw (b : Bw) : Array Value := #[.int .i64 b.1, .int .i64 b.2.1, .int .i64 b.2.2.1, .bool b.2.2.2]
def bref (x : Nat × Bw) : Value := .pointer (some ⟨x.1, 0, none⟩)
def rcw (v : Value) (window gr n newest : Int) (ov : Bool) : Array Value := #[v, .int .i64 window, .int .i64 gr, .int .i64 n, .int .i64 newest, .bool ov]
structure RW (w : World) (S : Nat → Prop) (p : Nat) (gr : Int) (v : Value) (es : List (Nat × Bw)) (window n newest : Int) (ov : Bool) : Prop where
  bd : ∀ k, S k → k < w.heap.size
  own : S p
  blk : Blk w p (rcw v window gr n newest ov) 180
  row : Own w S 20 1 v es.length (es.map fun x => Value.iface 245 (bref x))
  nodup : (es.map Prod.fst).Nodup
  bks : ∀ x, x ∈ es → S x.1 ∧ Blk w x.1 (bcw x.2) 244
def Ring (gr : Int) (K : Nat) (p : Nat) (w : World) (S : Nat → Prop) : Prop := ∃ v es window n newest ov, RW w S p gr v es window n newest ov ∧ es.length ≤ K
theorem map_set_same {α β : Type} {f : α → β} : ∀ {l : List α} {k : Nat} {x y : α}, l[k]? = some x → f y = f x → (l.set k y).map f = l.map f
  | [], _, _, _, h, _ => by simp at h
  | a :: l, 0, x, y, h, e => by
    simp at h
    subst h
    simp [e]
  | a :: l, k + 1, x, y, h, e => by
    simp only [List.getElem?_cons_succ] at h
    simp only [List.set_cons_succ, List.map_cons, map_set_same h e]
section
variable {w w' : World} {S T : Nat → Prop} {p K : Nat} {v : Value} {es : List (Nat × Bw)} {gr window n newest : Int} {ov : Bool}
theorem RW.chg (h : RW w S p gr v es window n newest ov) (c : Chg T w w') (hd : ∀ k, S k → T k → False) : RW w' S p gr v es window n newest ov :=
  ⟨fun k hk => Nat.lt_of_lt_of_le (h.bd k hk) c.size, h.own, h.blk.chg c (hd p h.own), h.row.chg c hd, h.nodup, fun x hx => ⟨(h.bks x hx).1, (h.bks x hx).2.chg c (hd x.1 (h.bks x hx).1)⟩⟩
theorem RW.kept (h : RW w S p gr v es window n newest ov) (c : Chg No w w') : RW w' S p gr v es window n newest ov := h.chg c fun _ _ h => h
theorem RW.mono (h : RW w S p gr v es window n newest ov) (hs : ∀ k, k < w.heap.size → S k → T k) (hb : ∀ k, T k → k < w.heap.size) : RW w T p gr v es window n newest ov :=
  ⟨hb, hs p h.blk.lt h.own, h.blk, h.row.mono hs, h.nodup, fun x hx => ⟨hs _ (h.bks x hx).2.lt (h.bks x hx).1, (h.bks x hx).2⟩⟩
theorem Ring.good : U.Good (Ring gr K p) := ⟨fun ⟨v, es, a, b, c, d, h, hk⟩ ch hd => ⟨v, es, a, b, c, d, h.chg ch hd, hk⟩, fun ⟨_, _, _, _, _, _, h, _⟩ => h.bd⟩
theorem Ring.wide : U.Wide (Ring gr K p) := ⟨fun ⟨v, es, a, b, c, d, h, hk⟩ hs hb => ⟨v, es, a, b, c, d, h.mono (fun k _ h => hs k h) hb, hk⟩⟩
theorem Ring.more {K' : Nat} (h : Ring gr K p w S) (hk : K ≤ K') : Ring gr K' p w S := by
  obtain ⟨v, es, a, b, c, d, h, h2⟩ := h
  exact ⟨v, es, a, b, c, d, h, Nat.le_trans h2 hk⟩
theorem RW.cell (h : RW w S p gr v es window n newest ov) (j : Nat) (u : Value) {window' n' newest' : Int} {ov' : Bool} (he : (rcw v window gr n newest ov).setIfInBounds j u = rcw v window' gr n' newest' ov') : RW (w.setCell ⟨p, j, none⟩ u) S p gr v es window' n' newest' ov' :=
  ⟨by simpa [World.setCell] using h.bd, h.own, he ▸ h.blk.set j u, h.row.other h.blk (by decide) _, h.nodup, fun x hx => ⟨(h.bks x hx).1, (h.bks x hx).2.other ((h.bks x hx).2.ne h.blk (by decide)) _⟩⟩
theorem RW.filter (h : RW w S p gr v es window n newest ov) {v' : Value} (q : Nat × Bw → Bool) (own : Own w' (Arr w S) 20 1 v' (G.kept q es).length ((G.kept q es).map fun x => Value.iface 245 (bref x))) (c : Chg (Arr w S) w w') : RW (w'.setCell ⟨p, 0, none⟩ v') S p gr v' (G.kept q es) window n newest ov := by
  have hb := h.blk.chg c (h.blk.no_arr (by decide))
  refine ⟨fun k hk => by have := h.bd k hk; have := c.size; simp [World.setCell]; omega, h.own, hb.set 0 v', (own.mono fun _ _ h => h.1).other hb (by decide) v', ?_, fun x hx => ?_⟩
  · exact h.nodup.sublist ((List.filter_sublist).map _)
  · obtain ⟨h1, h2⟩ := h.bks x (List.mem_filter.1 hx).1
    exact ⟨h1, (h2.chg c (h2.no_arr (by decide))).other (h2.ne h.blk (by decide)) v'⟩
theorem RW.put (h : RW w S p gr v es window n newest ov) {k bn : Nat} {b b' : Bw} (hk : es[k]? = some (bn, b)) {j : Nat} {u : Value} (he : (bcw b).setIfInBounds j u = bcw b') : RW (w.setCell ⟨bn, j, none⟩ u) S p gr v (es.set k (bn, b')) window n newest ov := by
  obtain ⟨h1, h2⟩ := h.bks _ (List.mem_of_getElem? hk)
  have hl : k < es.length := (List.getElem?_eq_some_iff.1 hk).1
  have e1 : (es.set k (bn, b')).map Prod.fst = es.map Prod.fst := map_set_same hk rfl
  have e2 : (es.set k (bn, b')).map (fun x => Value.iface 245 (bref x)) = es.map fun x => Value.iface 245 (bref x) := map_set_same hk rfl
  refine ⟨by simpa [World.setCell] using h.bd, h.own, h.blk.other (h.blk.ne h2 (by decide)) _, ?_, by rw [e1]; exact h.nodup, fun x hx => ?_⟩
  · rw [e2, List.length_set]
    exact h.row.other h2 (by decide) u
  · obtain ⟨i, hi⟩ := List.getElem?_of_mem hx
    rw [List.getElem?_set] at hi
    split at hi
    · rename_i e
      subst e
      rw [← Option.some.inj hi]
      exact ⟨h1, he ▸ h2.set j u⟩
    · rename_i e
      obtain ⟨h3, h4⟩ := h.bks x (List.mem_of_getElem? hi)
      refine ⟨h3, h4.other (fun e3 => e ?_) u⟩
      have a1 : (es.map Prod.fst)[k]? = some bn := by rw [List.getElem?_map, hk]; rfl
      have a2 : (es.map Prod.fst)[i]? = some bn := by rw [List.getElem?_map, hi]; exact congrArg some e3
      exact (List.getElem?_inj (by simpa using hl) h.nodup).1 (a1.trans a2.symm)
end
set_option maxHeartbeats 1000000 in
theorem old_pred (w : World) (b B p : Nat) (at_ newest n : Int) (hb : w.cell? ⟨b, 0, none⟩ = some (.int .i64 at_)) (hB : w.cell? ⟨B, 0, none⟩ = some (.pointer (some ⟨p, 0, none⟩))) (h3 : w.cell? ⟨p, 3, none⟩ = some (.int .i64 n)) (h4 : w.cell? ⟨p, 4, none⟩ = some (.int .i64 newest)) :
    Calls Tryz.prog 192 #[.iface 245 (.pointer (some ⟨b, 0, none⟩)), .pointer (some ⟨B, 0, none⟩)] w fun e w' => e = .returned (.bool (decide (n ≤ wrap64 (newest - at_)))) ∧ Chg No w w' := by
  go_enter Tryz.func192, Tryz.ntmps192
  go_wp2
  go_quiet (fail)
  go_wp2
  go_ret
  exact ⟨rfl, (Chg.refl _ _).drewN _⟩
def old (newest n : Int) (x : Nat × Bw) : Bool := decide (n ≤ wrap64 (newest - x.2.1))
end Go.Proofs.YtdgphoemjeakaaaGreatDoor.Wr
namespace Go.Proofs.YtdgphoemjeakaaaGreatDoor.Wr
open Go.RowKit Go.Shelf K
set_option maxRecDepth 100000
set_option maxHeartbeats 2000000 in
theorem forget_any (w : World) (S : Nat → Prop) (p : Nat) (gr : Int) (v : Value) (es : List (Nat × Bw)) (window n newest : Int) (ov : Bool) (h : RW w S p gr v es window n newest ov) (hn : es.length ≤ 1099511627776) :
    Calls Tryz.prog 160 #[.pointer (some ⟨p, 0, none⟩)] w fun e w' => e = .returned (.tuple #[]) ∧ (∃ v', RW w' S p gr v' (G.kept (old newest n) es) window n newest ov) ∧ Chg S w w' := by
  have eg : ∀ args w, (callFunc 192 args).run Tryz.prog w = .ok (.enter 192 args) w := enters_of Tryz.func192 (by kernel_rfl) rfl
  have HD : Hid (∀ W, RW W S p gr v es window n newest ov → Blk W w.heap.size #[.pointer (some ⟨p, 0, none⟩)] 128 → Calls Tryz.prog 140 #[v, .func (.func 192) #[] #[.pointer (some ⟨w.heap.size, 0, none⟩)]] W fun e w' => ∃ v', e = .returned v' ∧ Own w' (Arr W S) 20 1 v' (G.kept (old newest n) es).length ((G.kept (old newest n) es).map fun x => Value.iface 245 (bref x)) ∧ Chg (Arr W S) W w') := by
    intro W hW hB
    refine G.delete_func 245 bref (old newest n) es 192 #[.pointer (some ⟨w.heap.size, 0, none⟩)] eg W (Arr W S) v hW.row.arr hn fun W' x hx hc => ?_
    obtain ⟨h1, h2⟩ := hW.bks x hx
    have b1 := h2.chg hc (h2.no_arr (by decide))
    have b2 := hB.chg hc (hB.no_arr (by decide))
    have b3 := hW.blk.chg hc (hW.blk.no_arr (by decide))
    exact old_pred W' x.1 w.heap.size p x.2.1 newest n (Blk.cell b1 0) (Blk.cell b2 0) (Blk.cell b3 3) (Blk.cell b3 4)
  have H1 := Lib.hid (h.kept ((Chg.refl No w).alloc (.cells #[.pointer (some ⟨p, 0, none⟩)] 128)))
  have hB1 : Blk (w.alloc (.cells #[.pointer (some ⟨p, 0, none⟩)] 128)) w.heap.size #[.pointer (some ⟨p, 0, none⟩)] 128 := Blk.new _ _ _
  have hne : w.heap.size ≠ p := by have := h.blk.lt; omega
  have HC : Hid (Chg S w (w.alloc (.cells #[.pointer (some ⟨p, 0, none⟩)] 128))) := (Chg.refl S w).alloc _
  have HS := Lib.hid h.own
  have c0 : (w.alloc (.cells #[.pointer (some ⟨p, 0, none⟩)] 128)).cell? ⟨p, 0, none⟩ = some v := Blk.cell H1.out.blk 0
  clear h
  go_enter Tryz.func160, Tryz.ntmps160
  go_wp2_with fail
  generalize w.alloc (.cells #[.pointer (some ⟨p, 0, none⟩)] 128) = w1 at *
  generalize w.heap.size = B at *
  have cB : w1.cell? ⟨B, 0, none⟩ = some (.pointer (some ⟨p, 0, none⟩)) := Blk.cell hB1 0
  have HB1 := Lib.hid hB1
  clear hB1
  obtain ⟨va, cap, hv⟩ := H1.out.row.sl
  subst hv
  have HD1 := Lib.hid (H1.out.kept (Chg.refl No w1).drew)
  have HB2 : Hid (Blk w1.drew B #[.pointer (some ⟨p, 0, none⟩)] 128) := HB1.out
  go_region_with (go_at_call 140; refine (HD.out _ HD1.out HB2.out).mono ?_; rintro e w2 ⟨v2, rfl, ho, hc⟩; have bp := HD1.out.blk.chg hc (HD1.out.blk.no_arr (by decide)); have bB := HB2.out.chg hc (HB2.out.no_arr (by decide)); have cB2 : w2.cell? ⟨B, 0, none⟩ = some (.pointer (some ⟨p, 0, none⟩)) := Blk.cell bB 0; have c02 : w2.cell? ⟨p, 0, none⟩ = some (.slice va es.length cap) := Blk.cell bp 0; have f02 := Blk.free bp 0; obtain ⟨va2, cap2, hv2⟩ := ho.sl; subst hv2; have HO := Lib.hid ho; have HC2 := Lib.hid hc; clear ho hc bp bB)
  all_goals
    go_wp2
    go_end0
    exact ⟨rfl, ⟨_, HD1.out.filter _ HO.out HC2.out⟩, ((HC.out.drew).trans (HC2.out.mono fun _ _ h => h.1)).set (a := ⟨p, 0, none⟩) (fun _ => HS.out) _⟩
theorem RW.push {w1 wX w2 : World} {S : Nat → Prop} {p bn : Nat} {v v' : Value} {es : List (Nat × Bw)} {gr window n newest a : Int} {ov : Bool} (h : RW w1 S p gr v es window n newest ov) (hX : Chg No w1 wX) (hB : Blk wX bn #[.int .i64 a, .int .i64 0, .int .i64 0, .bool false] 244) (hbn : w1.heap.size ≤ bn)
    (own : Own w2 (K.nx (Arr w1 S) wX w2) 20 1 v' (es.length + 1) ((es.map fun x => Value.iface 245 (bref x)) ++ [.iface 245 (.pointer (some ⟨bn, 0, none⟩))])) (c : Chg (Arr w1 S) wX w2) :
    RW (w2.setCell ⟨p, 0, none⟩ v') (K.nx S w1 (w2.setCell ⟨p, 0, none⟩ v')) p gr v' (es ++ [(bn, (a, 0, 0, false))]) window n newest ov := by
  have hp2 := (h.blk.kept hX).chg c (h.blk.no_arr (by decide))
  have hB2 := hB.chg c (fun hA => by have := h.bd bn hA.1; omega)
  have hsz : (w2.setCell ⟨p, 0, none⟩ v').heap.size = w2.heap.size := by simp [World.setCell]
  have s1 := hX.size
  have s2 := c.size
  have hne : p ≠ bn := hp2.ne hB2 (by decide)
  refine ⟨fun k hk => hk.2, ⟨.inl h.own, by rw [hsz]; exact hp2.lt⟩, hp2.set 0 v', ?_, ?_, fun x hx => ?_⟩
  · rw [List.length_append, List.map_append]
    refine Own.other (own.mono fun k hk hS => ?_) hp2 (by decide) v'
    exact ⟨hS.1.imp (fun h => h.1) (by omega), by rw [hsz]; exact hS.2⟩
  · rw [List.map_append, List.nodup_append]
    refine ⟨h.nodup, by simp, fun a ha b hb => ?_⟩
    obtain ⟨x, hx, rfl⟩ := List.mem_map.1 ha
    have hlt := h.bd _ (h.bks x hx).1
    simp at hb
    omega
  · rcases List.mem_append.1 hx with hx | hx
    · obtain ⟨h1, h2⟩ := h.bks x hx
      have h3 := (h2.kept hX).chg c (h2.no_arr (by decide))
      exact ⟨⟨.inl h1, by rw [hsz]; exact h3.lt⟩, h3.other (h3.ne hp2 (by decide)) _⟩
    · rw [List.mem_singleton.1 hx]
      exact ⟨⟨.inr hbn, by rw [hsz]; exact hB2.lt⟩, hB2.other hne.symm v'⟩
end Go.Proofs.YtdgphoemjeakaaaGreatDoor.Wr
namespace Go.Proofs.YtdgphoemjeakaaaGreatDoor.Wr
open Go.RowKit Go.Shelf K
set_option maxRecDepth 100000
theorem RW.put3 {w : World} {S : Nat → Prop} {p k bn : Nat} {v : Value} {es : List (Nat × Bw)} {gr window n newest : Int} {ov : Bool} {b : Bw} (h : RW w S p gr v es window n newest ov) (hk : es[k]? = some (bn, b)) (s c : Int) (x : Bool) :
    RW (((w.setCell ⟨bn, 1, none⟩ (.int .i64 s)).setCell ⟨bn, 2, none⟩ (.int .i64 c)).setCell ⟨bn, 3, none⟩ (.bool x)) S p gr v (((es.set k (bn, (b.1, s, b.2.2))).set k (bn, (b.1, s, c, b.2.2.2))).set k (bn, (b.1, s, c, x))) window n newest ov := by
  have hl : k < es.length := (List.getElem?_eq_some_iff.1 hk).1
  have h1 := h.put (b' := (b.1, s, b.2.2)) hk (j := 1) (u := .int .i64 s) rfl
  have h2 := h1.put (b := (b.1, s, b.2.2)) (b' := (b.1, s, c, b.2.2.2)) (k := k) (bn := bn) (by simp [hl]) (j := 2) (u := .int .i64 c) rfl
  exact h2.put (b := (b.1, s, c, b.2.2.2)) (b' := (b.1, s, c, x)) (k := k) (bn := bn) (by simp [hl]) (j := 3) (u := .bool x) rfl
theorem RW.out {w w' : World} {S : Nat → Prop} {p m : Nat} {v : Value} {es : List (Nat × Bw)} {gr window n newest : Int} {ov : Bool} (h : RW w' S p gr v es window n newest ov) (hm : es.length ≤ m) : Ring gr m p w' (nx S w w') :=
  ⟨v, es, window, n, newest, ov, h.mono (fun _ hk hS => ⟨.inl hS, hk⟩) (fun _ hk => hk.2), hm⟩
theorem RW.out2 {w w' w3 w6 : World} {S : Nat → Prop} {p m : Nat} {v : Value} {es : List (Nat × Bw)} {gr window n newest : Int} {ov : Bool} (h : RW w' (nx S w3 w6) p gr v es window n newest ov) (h1 : w.heap.size ≤ w3.heap.size) (h2 : w6.heap.size ≤ w'.heap.size) (hm : es.length ≤ m) : Ring gr m p w' (nx S w w') :=
  ⟨v, es, window, n, newest, ov, h.mono (fun _ _ hk => nx_no h1 (nx_le h2 hk)) (fun _ hk => hk.2), hm⟩
set_option maxHeartbeats 8000000 in
theorem put_w (w : World) (S : Nat → Prop) (p m : Nat) (gr t val : Int) (h : Ring gr m p w S) (g0 : 1 ≤ gr) (hm : m + 1 ≤ 1099511627776) (t0 : 0 ≤ t) (t1 : t ≤ 1099511627776) :
    Calls Tryz.prog 129 #[.pointer (some ⟨p, 0, none⟩), .int .i64 t, .int .i64 val] w fun e w' => ∃ c : Int, e = .returned (.int .i64 c) ∧ Ring gr (m + 1) p w' (nx S w w') ∧ Chg S w w' := by
  have eg : ∀ args w, (callFunc 161 args).run Tryz.prog w = .ok (.enter 161 args) w := enters_of Tryz.func161 (by kernel_rfl) rfl
  obtain ⟨i0, hi, hz0, hz1, hz2⟩ := info_parts G.info20
  have k1 : decide (t < 0) = false := decide_eq_false (by omega)
  have k2 : decide (1099511627776 < t) = false := decide_eq_false (by omega)
  have HW0 : Hid (Ring gr (m + 1) p w (nx S w w)) := by
    obtain ⟨v, es, window, n, newest, ov, h, hn⟩ := h
    exact h.out (Nat.le_succ_of_le hn)
  by_cases hv : val < 0
  · have k3 : decide (val < 0) = true := decide_eq_true hv
    clear h
    go_enter Tryz.func129, Tryz.ntmps129
    go_wp2
    go_ret
    exact ⟨_, rfl, HW0.out, Chg.refl _ _⟩
  have k3 : decide (val < 0) = false := decide_eq_false hv
  clear HW0
  obtain ⟨v, es, window, n, newest, ov, h, hn⟩ := h
  have q1 : IntKind.i64.wrap (t.tdiv gr) = t / gr := by
    rw [Int.tdiv_eq_ediv_of_nonneg t0, IntKind.wrap_i64]
    have := Int.ediv_nonneg (a := t) (b := gr) t0 (by omega)
    have := Int.ediv_le_self (a := t) gr t0
    omega
  have k4 : ¬ gr = 0 := by omega
  have c2 : w.cell? ⟨p, 2, none⟩ = some (.int .i64 gr) := Blk.cell h.blk 2
  have c4 : w.cell? ⟨p, 4, none⟩ = some (.int .i64 newest) := Blk.cell h.blk 4
  have f4 := Blk.free h.blk 4
  have hp := h.blk.lt
  have H := Lib.hid h
  clear h
  generalize t / gr = a at *
  go_enter Tryz.func129, Tryz.ntmps129
  go_wp2
  have hB0 : Blk (w.alloc (.cells #[.int .i64 a] 2)) w.heap.size #[.int .i64 a] 2 := Blk.new w _ _
  have hR0 := H.out.kept ((Chg.refl No w).alloc (.cells #[.int .i64 a] 2))
  have HC0 : Hid (Chg S w (w.alloc (.cells #[.int .i64 a] 2))) := (Chg.refl S w).alloc _
  have hneA : w.heap.size ≠ p := by omega
  have HSZ : Hid (w.heap.size < (w.alloc (.cells #[.int .i64 a] 2)).heap.size) := by show _ < _; simp
  clear c2 c4 f4 hp
  have HNS : Hid (¬ S w.heap.size) := fun hS => by have := H.out.bd _ hS; omega
  generalize w.alloc (.cells #[.int .i64 a] 2) = wa at *
  generalize hBw : w.heap.size = B at *
  have HBw := Lib.hid hBw
  clear hBw
  have c4 : wa.cell? ⟨p, 4, none⟩ = some (.int .i64 newest) := Blk.cell hR0.blk 4
  have f4 := Blk.free hR0.blk 4
  have cA : wa.cell? ⟨B, 0, none⟩ = some (.int .i64 a) := Blk.cell hB0 0
  have HR0 := Lib.hid hR0
  have HB0 := Lib.hid hB0
  clear hR0 hB0
  by_cases hlt : newest < a
  · go_region
    all_goals
      have HR1 := Lib.hid ((HR0.out.cell (newest' := a) 4 (.int .i64 a) rfl).kept (Chg.refl No _).drew)
      have HB1 : Hid (Blk (wa.setCell ⟨p, 4, none⟩ (.int .i64 a)).drew B #[.int .i64 a] 2) := HB0.out.other hneA (.int .i64 a) (j := 4)
      have HC1 := Lib.hid ((HC0.out.set (a := ⟨p, 4, none⟩) (fun _ => H.out.own) (.int .i64 a)).drew)
      change Exit.then _ _ _ _ (wa.setCell ⟨p, 4, none⟩ (.int .i64 a)).drew
      generalize (wa.setCell ⟨p, 4, none⟩ (.int .i64 a)).drew = w1 at *
      clear c4 f4 cA HR0 HB0 HC0
      go_wp2_with fail
      refine (forget_any w1 S p gr v es window n a ov HR1.out (by omega)).mono ?_
      rintro e w2 ⟨rfl, ⟨v2, hL⟩, hc⟩
      have HKL : Hid ((G.kept (old a n) es).length ≤ m) := Nat.le_trans (List.length_filter_le _ _) hn
      generalize G.kept (old a n) es = ks at *
      have HC2 := Lib.hid (HC1.out.trans hc)
      have hB2 := HB1.out.chg hc HNS.out
      have c0 : w2.cell? ⟨p, 0, none⟩ = some v2 := Blk.cell hL.blk 0
      have c3 : w2.cell? ⟨p, 3, none⟩ = some (.int .i64 n) := Blk.cell hL.blk 3
      have c4 : w2.cell? ⟨p, 4, none⟩ = some (.int .i64 a) := Blk.cell hL.blk 4
      have cA : w2.cell? ⟨B, 0, none⟩ = some (.int .i64 a) := Blk.cell hB2 0
      have HL := Lib.hid hL
      have HB2 := Lib.hid hB2
      obtain ⟨x, hx⟩ : ∃ x, decide (n ≤ 0) = x := ⟨_, rfl⟩
      clear hL hB2 hc HR1 HB1 HC1
      go_wp2
      go_quiet (fail)
      cases x
      case true =>
        go_wp2
        go_ret
        exact ⟨_, rfl, (HL.out.kept ((Chg.refl No w2).drewN nq)).out (Nat.le_succ_of_le HKL.out), HC2.out.drewN nq⟩
      case false =>
        go_wp2_with fail
        have HX0 : Hid (Chg No w2 (w2.drewN nq)) := (Chg.refl No w2).drewN nq
        have HBX : Hid (∀ W, Chg No w2 W → W.cell? ⟨B, 0, none⟩ = some (.int .i64 a)) := fun W hW => Blk.cell (HB2.out.kept hW) 0
        have HI := Lib.hid (G.index_func (fun x : Nat × Bw => Value.iface 245 (bref x)) (fun x => x.2.1 == a) ks 161 #[.pointer (some ⟨B, 0, none⟩)] eg (w2.drewN nq) S v2 (HL.out.row.kept HX0.out) (by have := HKL.out; omega) (fun W x hx hc => R.same_pred W x.1 B x.2.1 a (Blk.cell ((HL.out.bks x hx).2.kept (HX0.out.trans hc)) 0) (HBX.out W (HX0.out.trans hc))))
        refine HI.out.mono ?_
        rintro e w3 ⟨r, rfl, hf, hc⟩
        have hcx := HX0.out.trans hc
        have HL3 := Lib.hid (HL.out.kept hcx)
        have c03 : w3.cell? ⟨p, 0, none⟩ = some v2 := Blk.cell HL3.out.blk 0
        have HC3 := Lib.hid (HC2.out.trans hcx.of_no)
        obtain ⟨va, cap, hv2⟩ := HL3.out.row.sl
        subst hv2
        have hkl := HKL.out
        have hpl : p < w3.heap.size := HL3.out.blk.lt
        have cA3 := HBX.out w3 hcx
        have hBl : B < w3.heap.size := (HB2.out.kept hcx).lt
        have HA := Lib.hid HL3.out.row.arr
        clear hc hcx c0 c3 c4 cA HI HBX HX0 HL
        rcases hf with ⟨rfl, _⟩ | ⟨k, x, hx, rfl, hp, _⟩
        · go_wp2_with fail
          go_region_law (refine step_app rfl (.tmp 71) (.tmp 76) 58 rfl (Arr w3 S) 20 i0 .nilIface 1 16 Tryz.underlying58 hi hz0 hz1 hz2 rfl _ _ _ (by simp [Act.eval]) (HA.out.kept ((((Chg.refl No w3).drew).alloc _).alloc _)) ⟨w3.heap.size + 1, 0, none⟩ 1 1 [.iface 245 (.pointer (some ⟨w3.heap.size, 0, none⟩))] (by simp [Act.eval]) (by decide) rfl (built_at (by simp)) (by simp [Value.oneCell']) (by simp only [maxLen]; omega) (by omega) ?_; intro g5 o5 c5 w5 ho5 hc5; have bp5 := (HL3.out.blk.kept (by first | exact (((Chg.refl No w3).alloc _).alloc _).drew | exact (((Chg.refl No w3).drew).alloc _).alloc _)).chg hc5 (HL3.out.blk.no_arr (by decide)); have bb5 := Blk.chg (w := (((w3.alloc (.cells #[.int .i64 a, .int .i64 0, .int .i64 0, .bool false] 244)).alloc (.cells #[.iface 245 (.pointer (some ⟨w3.heap.size, 0, none⟩))] 20)).drew)) ((Blk.new w3 #[.int .i64 a, .int .i64 0, .int .i64 0, .bool false] 244).alloc (.cells #[.iface 245 (.pointer (some ⟨w3.heap.size, 0, none⟩))] 20)) hc5 (fun hA => by have := HL3.out.bd _ hA.1; omega); have p05 : w5.cell? ⟨p, 0, none⟩ = some (.slice va ks.length cap) := Blk.cell bp5 0; have fp5 := Blk.free bp5 0; have HO5 := Lib.hid ho5; have HC5 := Lib.hid hc5; have HBB := Lib.hid bb5; have HBP := Lib.hid bp5; clear ho5 hc5 bb5 bp5)
          all_goals
            have hbn : w3.heap.size ≠ p := by omega
            have hX5 : Chg No w3 ((w3.alloc (.cells #[.int .i64 a, .int .i64 0, .int .i64 0, .bool false] 244)).alloc (.cells #[.iface 245 (.pointer (some ⟨w3.heap.size, 0, none⟩))] 20)).drew := (((Chg.refl No w3).alloc _).alloc _).drew
            have HPU := Lib.hid (HL3.out.push hX5 ((Blk.new w3 #[.int .i64 a, .int .i64 0, .int .i64 0, .bool false] 244).alloc _) (Nat.le_refl _) HO5.out HC5.out)
            have HC6 := Lib.hid ((((HC3.out.trans hX5.of_no).step HC5.out fun k _ h => h.1)).set (a := ⟨p, 0, none⟩) (fun _ => H.out.own) (.slice (some ⟨g5, o5, none⟩) (ks.length + 1) c5))
            have HK6 : Hid ((ks ++ [(w3.heap.size, ((a, 0, 0, false) : Bw))])[ks.length]? = some (w3.heap.size, (a, 0, 0, false))) := by show _ = _; simp
            have HS6 := Lib.hid (Nat.le_refl w3.heap.size)
            have e6 : (w5.setCell ⟨p, 0, none⟩ (.slice (some ⟨g5, o5, none⟩) (ks.length + 1) c5)).cell? ⟨g5, o5 + ks.length, none⟩ = some (.iface 245 (.pointer (some ⟨w3.heap.size, 0, none⟩))) := by
              have h := HPU.out.row
              rw [List.length_append, List.length_singleton] at h
              rw [h.cellAt ks.length (by omega), List.getElem?_map, HK6.out]
              rfl
            have p06 : (w5.setCell ⟨p, 0, none⟩ (.slice (some ⟨g5, o5, none⟩) (ks.length + 1) c5)).cell? ⟨p, 0, none⟩ = some (.slice (some ⟨g5, o5, none⟩) (ks.length + 1) c5) := Blk.cell HPU.out.blk 0
            have HSW : Hid (w.heap.size ≤ w3.heap.size) := HC3.out.size
            have hb6 := (HPU.out.bks _ (List.mem_of_getElem? HK6.out)).2
            have b16 : (w5.setCell ⟨p, 0, none⟩ (.slice (some ⟨g5, o5, none⟩) (ks.length + 1) c5)).cell? ⟨w3.heap.size, 1, none⟩ = some (.int .i64 0) := Blk.cell hb6 1
            generalize w5.setCell ⟨p, 0, none⟩ (.slice (some ⟨g5, o5, none⟩) (ks.length + 1) c5) = w6 at *
            generalize w3.heap.size = bn at *
            clear hX5 c03 cA3 hb6 HS6
            go_wp2_with fail
            refine (Wk.add_w _ val _).mono ?_
            rintro e w8 ⟨sm, cd, rfl, hc8⟩
            have HP8 := Lib.hid (HPU.out.kept hc8)
            have HC8 := Lib.hid (HC6.out.trans hc8.of_no)
            have hb8 := (HP8.out.bks _ (List.mem_of_getElem? HK6.out)).2
            have b18 : w8.cell? ⟨bn, 1, none⟩ = some (.int .i64 0) := Blk.cell hb8 1
            have b28 : w8.cell? ⟨bn, 2, none⟩ = some (.int .i64 0) := Blk.cell hb8 2
            have b38 : w8.cell? ⟨bn, 3, none⟩ = some (.bool false) := Blk.cell hb8 3
            have f18 := Blk.free hb8 1
            have f28 := Blk.free hb8 2
            have f38 := Blk.free hb8 3
            have HZ8 : Hid (w6.heap.size ≤ w8.heap.size) := hc8.size
            obtain ⟨x, hx⟩ : ∃ x, (cd != 0) = x := ⟨_, rfl⟩
            clear hc8 hb8 HPU HC6
            go_wp2_with fail
            go_region
            all_goals
              go_wp2
              go_ret
              refine ⟨_, rfl, ((HP8.out.put3 HK6.out _ _ _).kept (Chg.refl No _).drew).out2 HC3.out.size (by have h8 := HZ8.out; simpa [World.setCell] using h8) ?_, ?_⟩
              · simp only [List.length_set]; rw [List.length_append, List.length_singleton]; omega
              · exact (R.chg_new (R.chg_new (R.chg_new HC8.out HSW.out _) HSW.out _) HSW.out _).drew
        · obtain ⟨bn, b0, b1, b2, b3⟩ := x
          have hkk : k < ks.length := (List.getElem?_eq_some_iff.1 hx).1
          obtain ⟨g, o, rfl, hS, hg, hcap, hmax⟩ := HL3.out.row.some_ (by omega)
          have e3 : w3.cell? ⟨g, o + k, none⟩ = some (.iface 245 (.pointer (some ⟨bn, 0, none⟩))) := by
            rw [HL3.out.row.cellAt k (by omega), List.getElem?_map, hx]
            rfl
          obtain ⟨hsb, hb3⟩ := HL3.out.bks _ (List.mem_of_getElem? hx)
          have b13 : w3.cell? ⟨bn, 1, none⟩ = some (.int .i64 b1) := Blk.cell hb3 1
          have HSB := Lib.hid hsb
          have HK6 := Lib.hid hx
          have HPU := HL3
          have HC6 := HC3
          have HSW := Lib.hid HC3.out.size
          clear hb3 hsb hS hx hmax cA3
          cases b3
          all_goals
            go_wp2_with fail
            refine (Wk.add_w _ val _).mono ?_
            rintro e w8 ⟨sm, cd, rfl, hc8⟩
            have HP8 := Lib.hid (HPU.out.kept hc8)
            have HC8 := Lib.hid (HC6.out.trans hc8.of_no)
            have hb8 := (HP8.out.bks _ (List.mem_of_getElem? HK6.out)).2
            have b18 : w8.cell? ⟨bn, 1, none⟩ = some (.int .i64 b1) := Blk.cell hb8 1
            have b28 : w8.cell? ⟨bn, 2, none⟩ = some (.int .i64 b2) := Blk.cell hb8 2
            have b38 : w8.cell? ⟨bn, 3, none⟩ = some (.bool _) := Blk.cell hb8 3
            have f18 := Blk.free hb8 1
            have f28 := Blk.free hb8 2
            have f38 := Blk.free hb8 3
            have HZ8 : Hid (w3.heap.size ≤ w8.heap.size) := hc8.size
            obtain ⟨x, hx⟩ : ∃ x, (cd != 0) = x := ⟨_, rfl⟩
            clear hc8 hb8 HPU HC6
            go_wp2_with fail
            go_region
            all_goals
              go_wp2
              go_ret
              refine ⟨_, rfl, ((HP8.out.put3 HK6.out _ _ _).kept (Chg.refl No _).drew).out ?_, ?_⟩
              · simp only [List.length_set]; omega
              · exact ((((HC8.out.set (a := ⟨bn, 1, none⟩) (fun _ => HSB.out) _).set (a := ⟨bn, 2, none⟩) (fun _ => HSB.out) _).set (a := ⟨bn, 3, none⟩) (fun _ => HSB.out) _)).drew
  · go_region
    all_goals
      have HR1 := Lib.hid ((HR0.out.cell (newest' := newest) 4 (.int .i64 newest) rfl).kept (Chg.refl No _).drew)
      have HB1 : Hid (Blk (wa.setCell ⟨p, 4, none⟩ (.int .i64 newest)).drew B #[.int .i64 a] 2) := HB0.out.other hneA (.int .i64 newest) (j := 4)
      have HC1 := Lib.hid ((HC0.out.set (a := ⟨p, 4, none⟩) (fun _ => H.out.own) (.int .i64 newest)).drew)
      change Exit.then _ _ _ _ (wa.setCell ⟨p, 4, none⟩ (.int .i64 newest)).drew
      generalize (wa.setCell ⟨p, 4, none⟩ (.int .i64 newest)).drew = w1 at *
      clear c4 f4 cA HR0 HB0 HC0
      go_wp2_with fail
      refine (forget_any w1 S p gr v es window n newest ov HR1.out (by omega)).mono ?_
      rintro e w2 ⟨rfl, ⟨v2, hL⟩, hc⟩
      have HKL : Hid ((G.kept (old newest n) es).length ≤ m) := Nat.le_trans (List.length_filter_le _ _) hn
      generalize G.kept (old newest n) es = ks at *
      have HC2 := Lib.hid (HC1.out.trans hc)
      have hB2 := HB1.out.chg hc HNS.out
      have c0 : w2.cell? ⟨p, 0, none⟩ = some v2 := Blk.cell hL.blk 0
      have c3 : w2.cell? ⟨p, 3, none⟩ = some (.int .i64 n) := Blk.cell hL.blk 3
      have c4 : w2.cell? ⟨p, 4, none⟩ = some (.int .i64 newest) := Blk.cell hL.blk 4
      have cA : w2.cell? ⟨B, 0, none⟩ = some (.int .i64 a) := Blk.cell hB2 0
      have HL := Lib.hid hL
      have HB2 := Lib.hid hB2
      obtain ⟨x, hx⟩ : ∃ x, decide (n ≤ wrap64 (newest - a)) = x := ⟨_, rfl⟩
      clear hL hB2 hc HR1 HB1 HC1
      go_wp2
      go_quiet (fail)
      cases x
      case true =>
        go_wp2
        go_ret
        exact ⟨_, rfl, (HL.out.kept ((Chg.refl No w2).drewN nq)).out (Nat.le_succ_of_le HKL.out), HC2.out.drewN nq⟩
      case false =>
        go_wp2_with fail
        have HX0 : Hid (Chg No w2 (w2.drewN nq)) := (Chg.refl No w2).drewN nq
        have HBX : Hid (∀ W, Chg No w2 W → W.cell? ⟨B, 0, none⟩ = some (.int .i64 a)) := fun W hW => Blk.cell (HB2.out.kept hW) 0
        have HI := Lib.hid (G.index_func (fun x : Nat × Bw => Value.iface 245 (bref x)) (fun x => x.2.1 == a) ks 161 #[.pointer (some ⟨B, 0, none⟩)] eg (w2.drewN nq) S v2 (HL.out.row.kept HX0.out) (by have := HKL.out; omega) (fun W x hx hc => R.same_pred W x.1 B x.2.1 a (Blk.cell ((HL.out.bks x hx).2.kept (HX0.out.trans hc)) 0) (HBX.out W (HX0.out.trans hc))))
        refine HI.out.mono ?_
        rintro e w3 ⟨r, rfl, hf, hc⟩
        have hcx := HX0.out.trans hc
        have HL3 := Lib.hid (HL.out.kept hcx)
        have c03 : w3.cell? ⟨p, 0, none⟩ = some v2 := Blk.cell HL3.out.blk 0
        have HC3 := Lib.hid (HC2.out.trans hcx.of_no)
        obtain ⟨va, cap, hv2⟩ := HL3.out.row.sl
        subst hv2
        have hkl := HKL.out
        have hpl : p < w3.heap.size := HL3.out.blk.lt
        have cA3 := HBX.out w3 hcx
        have hBl : B < w3.heap.size := (HB2.out.kept hcx).lt
        have HA := Lib.hid HL3.out.row.arr
        clear hc hcx c0 c3 c4 cA HI HBX HX0 HL
        rcases hf with ⟨rfl, _⟩ | ⟨k, x, hx, rfl, hp, _⟩
        · go_wp2_with fail
          go_region_law (refine step_app rfl (.tmp 71) (.tmp 76) 58 rfl (Arr w3 S) 20 i0 .nilIface 1 16 Tryz.underlying58 hi hz0 hz1 hz2 rfl _ _ _ (by simp [Act.eval]) (HA.out.kept ((((Chg.refl No w3).drew).alloc _).alloc _)) ⟨w3.heap.size + 1, 0, none⟩ 1 1 [.iface 245 (.pointer (some ⟨w3.heap.size, 0, none⟩))] (by simp [Act.eval]) (by decide) rfl (built_at (by simp)) (by simp [Value.oneCell']) (by simp only [maxLen]; omega) (by omega) ?_; intro g5 o5 c5 w5 ho5 hc5; have bp5 := (HL3.out.blk.kept (by first | exact (((Chg.refl No w3).alloc _).alloc _).drew | exact (((Chg.refl No w3).drew).alloc _).alloc _)).chg hc5 (HL3.out.blk.no_arr (by decide)); have bb5 := Blk.chg (w := (((w3.alloc (.cells #[.int .i64 a, .int .i64 0, .int .i64 0, .bool false] 244)).alloc (.cells #[.iface 245 (.pointer (some ⟨w3.heap.size, 0, none⟩))] 20)).drew)) ((Blk.new w3 #[.int .i64 a, .int .i64 0, .int .i64 0, .bool false] 244).alloc (.cells #[.iface 245 (.pointer (some ⟨w3.heap.size, 0, none⟩))] 20)) hc5 (fun hA => by have := HL3.out.bd _ hA.1; omega); have p05 : w5.cell? ⟨p, 0, none⟩ = some (.slice va ks.length cap) := Blk.cell bp5 0; have fp5 := Blk.free bp5 0; have HO5 := Lib.hid ho5; have HC5 := Lib.hid hc5; have HBB := Lib.hid bb5; have HBP := Lib.hid bp5; clear ho5 hc5 bb5 bp5)
          all_goals
            have hbn : w3.heap.size ≠ p := by omega
            have hX5 : Chg No w3 ((w3.alloc (.cells #[.int .i64 a, .int .i64 0, .int .i64 0, .bool false] 244)).alloc (.cells #[.iface 245 (.pointer (some ⟨w3.heap.size, 0, none⟩))] 20)).drew := (((Chg.refl No w3).alloc _).alloc _).drew
            have HPU := Lib.hid (HL3.out.push hX5 ((Blk.new w3 #[.int .i64 a, .int .i64 0, .int .i64 0, .bool false] 244).alloc _) (Nat.le_refl _) HO5.out HC5.out)
            have HC6 := Lib.hid ((((HC3.out.trans hX5.of_no).step HC5.out fun k _ h => h.1)).set (a := ⟨p, 0, none⟩) (fun _ => H.out.own) (.slice (some ⟨g5, o5, none⟩) (ks.length + 1) c5))
            have HK6 : Hid ((ks ++ [(w3.heap.size, ((a, 0, 0, false) : Bw))])[ks.length]? = some (w3.heap.size, (a, 0, 0, false))) := by show _ = _; simp
            have HS6 := Lib.hid (Nat.le_refl w3.heap.size)
            have e6 : (w5.setCell ⟨p, 0, none⟩ (.slice (some ⟨g5, o5, none⟩) (ks.length + 1) c5)).cell? ⟨g5, o5 + ks.length, none⟩ = some (.iface 245 (.pointer (some ⟨w3.heap.size, 0, none⟩))) := by
              have h := HPU.out.row
              rw [List.length_append, List.length_singleton] at h
              rw [h.cellAt ks.length (by omega), List.getElem?_map, HK6.out]
              rfl
            have p06 : (w5.setCell ⟨p, 0, none⟩ (.slice (some ⟨g5, o5, none⟩) (ks.length + 1) c5)).cell? ⟨p, 0, none⟩ = some (.slice (some ⟨g5, o5, none⟩) (ks.length + 1) c5) := Blk.cell HPU.out.blk 0
            have HSW : Hid (w.heap.size ≤ w3.heap.size) := HC3.out.size
            have hb6 := (HPU.out.bks _ (List.mem_of_getElem? HK6.out)).2
            have b16 : (w5.setCell ⟨p, 0, none⟩ (.slice (some ⟨g5, o5, none⟩) (ks.length + 1) c5)).cell? ⟨w3.heap.size, 1, none⟩ = some (.int .i64 0) := Blk.cell hb6 1
            generalize w5.setCell ⟨p, 0, none⟩ (.slice (some ⟨g5, o5, none⟩) (ks.length + 1) c5) = w6 at *
            generalize w3.heap.size = bn at *
            clear hX5 c03 cA3 hb6 HS6
            go_wp2_with fail
            refine (Wk.add_w _ val _).mono ?_
            rintro e w8 ⟨sm, cd, rfl, hc8⟩
            have HP8 := Lib.hid (HPU.out.kept hc8)
            have HC8 := Lib.hid (HC6.out.trans hc8.of_no)
            have hb8 := (HP8.out.bks _ (List.mem_of_getElem? HK6.out)).2
            have b18 : w8.cell? ⟨bn, 1, none⟩ = some (.int .i64 0) := Blk.cell hb8 1
            have b28 : w8.cell? ⟨bn, 2, none⟩ = some (.int .i64 0) := Blk.cell hb8 2
            have b38 : w8.cell? ⟨bn, 3, none⟩ = some (.bool false) := Blk.cell hb8 3
            have f18 := Blk.free hb8 1
            have f28 := Blk.free hb8 2
            have f38 := Blk.free hb8 3
            have HZ8 : Hid (w6.heap.size ≤ w8.heap.size) := hc8.size
            obtain ⟨x, hx⟩ : ∃ x, (cd != 0) = x := ⟨_, rfl⟩
            clear hc8 hb8 HPU HC6
            go_wp2_with fail
            go_region
            all_goals
              go_wp2
              go_ret
              refine ⟨_, rfl, ((HP8.out.put3 HK6.out _ _ _).kept (Chg.refl No _).drew).out2 HC3.out.size (by have h8 := HZ8.out; simpa [World.setCell] using h8) ?_, ?_⟩
              · simp only [List.length_set]; rw [List.length_append, List.length_singleton]; omega
              · exact (R.chg_new (R.chg_new (R.chg_new HC8.out HSW.out _) HSW.out _) HSW.out _).drew
        · obtain ⟨bn, b0, b1, b2, b3⟩ := x
          have hkk : k < ks.length := (List.getElem?_eq_some_iff.1 hx).1
          obtain ⟨g, o, rfl, hS, hg, hcap, hmax⟩ := HL3.out.row.some_ (by omega)
          have e3 : w3.cell? ⟨g, o + k, none⟩ = some (.iface 245 (.pointer (some ⟨bn, 0, none⟩))) := by
            rw [HL3.out.row.cellAt k (by omega), List.getElem?_map, hx]
            rfl
          obtain ⟨hsb, hb3⟩ := HL3.out.bks _ (List.mem_of_getElem? hx)
          have b13 : w3.cell? ⟨bn, 1, none⟩ = some (.int .i64 b1) := Blk.cell hb3 1
          have HSB := Lib.hid hsb
          have HK6 := Lib.hid hx
          have HPU := HL3
          have HC6 := HC3
          have HSW := Lib.hid HC3.out.size
          clear hb3 hsb hS hx hmax cA3
          cases b3
          all_goals
            go_wp2_with fail
            refine (Wk.add_w _ val _).mono ?_
            rintro e w8 ⟨sm, cd, rfl, hc8⟩
            have HP8 := Lib.hid (HPU.out.kept hc8)
            have HC8 := Lib.hid (HC6.out.trans hc8.of_no)
            have hb8 := (HP8.out.bks _ (List.mem_of_getElem? HK6.out)).2
            have b18 : w8.cell? ⟨bn, 1, none⟩ = some (.int .i64 b1) := Blk.cell hb8 1
            have b28 : w8.cell? ⟨bn, 2, none⟩ = some (.int .i64 b2) := Blk.cell hb8 2
            have b38 : w8.cell? ⟨bn, 3, none⟩ = some (.bool _) := Blk.cell hb8 3
            have f18 := Blk.free hb8 1
            have f28 := Blk.free hb8 2
            have f38 := Blk.free hb8 3
            have HZ8 : Hid (w3.heap.size ≤ w8.heap.size) := hc8.size
            obtain ⟨x, hx⟩ : ∃ x, (cd != 0) = x := ⟨_, rfl⟩
            clear hc8 hb8 HPU HC6
            go_wp2_with fail
            go_region
            all_goals
              go_wp2
              go_ret
              refine ⟨_, rfl, ((HP8.out.put3 HK6.out _ _ _).kept (Chg.refl No _).drew).out ?_, ?_⟩
              · simp only [List.length_set]; omega
              · exact ((((HC8.out.set (a := ⟨bn, 1, none⟩) (fun _ => HSB.out) _).set (a := ⟨bn, 2, none⟩) (fun _ => HSB.out) _).set (a := ⟨bn, 3, none⟩) (fun _ => HSB.out) _)).drew
end Go.Proofs.YtdgphoemjeakaaaGreatDoor.Wr
namespace Go.Proofs.YtdgphoemjeakaaaGreatDoor.Wr
open Go.RowKit Go.Shelf K
set_option maxRecDepth 100000
set_option maxHeartbeats 8000000 in
theorem sum_w (w : World) (S : Nat → Prop) (p m : Nat) (gr t : Int) (h : Ring gr m p w S) (g0 : 1 ≤ gr) (hm : m + 1 ≤ 1099511627776) (t0 : 0 ≤ t) (t1 : t ≤ 1099511627776) :
    Calls Tryz.prog 163 #[.pointer (some ⟨p, 0, none⟩), .int .i64 t] w fun e w' => ∃ a b : Int, e = .returned (.tuple #[.int .i64 a, .int .i64 b]) ∧ Ring gr m p w' S ∧ Chg S w w' := by
  obtain ⟨v, es, window, n, newest, ov, h, hn⟩ := h
  have q1 : IntKind.i64.wrap (t.tdiv gr) = t / gr := by
    rw [Int.tdiv_eq_ediv_of_nonneg t0, IntKind.wrap_i64]
    have := Int.ediv_nonneg (a := t) (b := gr) t0 (by omega)
    have := Int.ediv_le_self (a := t) gr t0
    omega
  have k4 : ¬ gr = 0 := by omega
  have c0 : w.cell? ⟨p, 0, none⟩ = some v := Blk.cell h.blk 0
  have c2 : w.cell? ⟨p, 2, none⟩ = some (.int .i64 gr) := Blk.cell h.blk 2
  obtain ⟨va, cap, hv⟩ := h.row.sl
  subst hv
  have H := Lib.hid h
  clear h
  have k1 : decide (t < 0) = false := decide_eq_false (by omega)
  generalize t / gr = l at *
  go_enter Tryz.func163, Tryz.ntmps163
  go_wp2_with fail
  go_loopw [7, 8, 32] (fun s c i wr => ∃ (k : Nat) (s' c' : Int) (ov' : Bool), k ≤ es.length ∧ i = .int .i64 k ∧ s = .int .i64 s' ∧ c = .int .i64 c' ∧ Hid (RW wr S p gr (.slice va es.length cap) es window n newest ov') ∧ Hid (Chg S w wr)) (fun _ _ i _ => es.length - (intOf i).toNat)
  case atStart => exact ⟨0, 0, 0, ov, Nat.zero_le _, rfl, rfl, rfl, H.out, Chg.refl _ _⟩
  case round =>
    obtain ⟨k, s', c', ov', hk, rfl, rfl, rfl, HR, HC⟩ := hrel
    by_cases hlt : k < es.length
    · obtain ⟨g, o, rfl, hS, hg, hcap, hmax⟩ := HR.out.row.some_ (by omega)
      obtain ⟨⟨b, a, s, bn, bc⟩, hq⟩ : ∃ x, es[k]? = some x := ⟨es[k], List.getElem?_eq_getElem hlt⟩
      obtain ⟨_, hB⟩ := HR.out.bks _ (List.mem_of_getElem? hq)
      have e0 : wr.cell? ⟨g, o + k, none⟩ = some (.iface 245 (.pointer (some ⟨b, 0, none⟩))) := by
        rw [HR.out.row.cellAt k (by omega), List.getElem?_map, hq]
        rfl
      have b0 : wr.cell? ⟨b, 0, none⟩ = some (.int .i64 a) := Blk.cell hB 0
      have b1 : wr.cell? ⟨b, 1, none⟩ = some (.int .i64 s) := Blk.cell hB 1
      have p3 : wr.cell? ⟨p, 3, none⟩ = some (.int .i64 n) := Blk.cell HR.out.blk 3
      have HBB := Lib.hid hB
      have hne : b ≠ p := hB.ne HR.out.blk (by decide)
      clear hq hS hmax hB
      cases x1 : decide (l < a) <;> cases x2 : decide (n ≤ wrap64 (l - a))
      case false.false =>
        go_wp2
        go_quiet (fail)
        go_wp2_with fail
        refine (Wk.add_w _ _ _).mono ?_
        rintro e w2 ⟨sm, cd, rfl, hc⟩
        have hc' := ((Chg.refl No wr).drewN nq).trans hc
        have HR2 := Lib.hid (HR.out.kept hc')
        have HC2 := Lib.hid (HC.out.trans hc'.of_no)
        have hB2 := HBB.out.kept hc'
        have b22 : w2.cell? ⟨b, 2, none⟩ = some (.int .i64 bn) := Blk.cell hB2 2
        have b32 : w2.cell? ⟨b, 3, none⟩ = some (.bool bc) := Blk.cell hB2 3
        have p52 : w2.cell? ⟨p, 5, none⟩ = some (.bool ov') := Blk.cell HR2.out.blk 5
        have f52 := Blk.free HR2.out.blk 5
        obtain ⟨x, hx⟩ : ∃ x, (cd != 0) = x := ⟨_, rfl⟩
        have HRC : Hid (∀ y : Bool, RW (w2.setCell ⟨p, 5, none⟩ (.bool y)) S p gr (.slice (some ⟨g, o, none⟩) es.length cap) es window n newest y) := fun y => HR2.out.cell 5 (.bool y) rfl
        have HCC : Hid (∀ y : Bool, Chg S w (w2.setCell ⟨p, 5, none⟩ (.bool y))) := fun y => HC2.out.set (a := ⟨p, 5, none⟩) (fun _ => HR.out.own) (.bool y)
        clear hc hc' hB2 b0 b1 p3
        cases ov' <;> cases bc
        all_goals
          go_wp2
          go_quiet (fail)
          go_wp2
          go_roundw
          case rel => exact ⟨k + 1, _, _, _, by omega, by go_num, rfl, rfl, (HRC.out _).kept ((Chg.refl No _).drewN _), (HCC.out _).drewN _⟩
          case measure => simp [intOf]; omega
      all_goals
        go_wp2
        go_quiet (fail)
        go_wp2
        go_roundw
        case rel => exact ⟨k + 1, _, _, _, by omega, by go_num, rfl, rfl, HR.out.kept ((Chg.refl No _).drewN _), HC.out.drewN _⟩
        case measure => simp [intOf]; omega
    · obtain rfl : k = es.length := by omega
      go_wp2
      go_ret2
      exact ⟨_, _, rfl, ⟨_, _, _, _, _, _, HR.out, hn⟩, HC.out⟩
end Go.Proofs.YtdgphoemjeakaaaGreatDoor.Wr
namespace Go.Proofs.YtdgphoemjeakaaaGreatDoor.Wr
open Go.RowKit Go.Shelf K
set_option maxRecDepth 100000
set_option maxHeartbeats 2000000 in
theorem mean_w (w : World) (S : Nat → Prop) (p m : Nat) (gr t : Int) (h : Ring gr m p w S) (g0 : 1 ≤ gr) (hm : m + 1 ≤ 1099511627776) (t0 : 0 ≤ t) (t1 : t ≤ 1099511627776) :
    Calls Tryz.prog 133 #[.pointer (some ⟨p, 0, none⟩), .int .i64 t] w fun e w' => ∃ a : Int, e = .returned (.int .i64 a) ∧ Ring gr m p w' S ∧ Chg S w w' := by
  have HS := Lib.hid (sum_w w S p m gr t h g0 hm t0 t1)
  clear h
  go_enter Tryz.func133, Tryz.ntmps133
  go_wp2_with fail
  refine HS.out.mono ?_
  rintro e w1 ⟨a, b, rfl, hr, hc⟩
  have HR := Lib.hid hr
  have HC := Lib.hid hc
  clear hr hc
  by_cases h0 : b = 0
  · have k1 : (b == 0) = true := beq_iff_eq.2 h0
    go_wp2
    go_ret
    exact ⟨_, rfl, HR.out, HC.out⟩
  · have k1 : (b == 0) = false := beq_eq_false_iff_ne.2 h0
    go_wp2
    go_ret
    exact ⟨_, rfl, HR.out, HC.out⟩
set_option maxHeartbeats 1000000 in
theorem over_w (w : World) (S : Nat → Prop) (p m : Nat) (gr : Int) (h : Ring gr m p w S) : Calls Tryz.prog 106 #[.pointer (some ⟨p, 0, none⟩)] w fun e w' => ∃ b : Bool, e = .returned (.bool b) ∧ w = w' := by
  obtain ⟨v, es, window, n, newest, ov, h, _⟩ := h
  have p5 : w.cell? ⟨p, 5, none⟩ = some (.bool ov) := Blk.cell h.blk 5
  clear h
  go_enter Tryz.func106, Tryz.ntmps106
  go_wp2
  go_ret
  exact ⟨_, rfl, rfl⟩
set_option maxHeartbeats 1000000 in
theorem buckets_w (window gr : Int) (w : World) (g0 : 1 ≤ gr) : Calls Tryz.prog 107 #[.int .i64 window, .int .i64 gr] w fun e w' => ∃ n : Int, e = .returned (.int .i64 n) ∧ w = w' := by
  have k4 : ¬ gr = 0 := by omega
  go_enter Tryz.func107, Tryz.ntmps107
  go_wp2
  go_ret
  exact ⟨_, rfl, rfl⟩
set_option maxHeartbeats 1000000 in
theorem new_w (window gr : Int) (w : World) (w0 : 1 ≤ window) (w1 : window ≤ 600) (g0 : 1 ≤ gr) (g1 : gr ≤ window) : Calls Tryz.prog 73 #[.int .i64 window, .int .i64 gr] w fun e w' => ∃ n : Int, e = .returned (.pointer (some ⟨w.heap.size, 0, none⟩)) ∧ w' = w.alloc (.cells (rcw (.slice none 0 0) window gr n (-1) false) 180) := by
  have k1 : decide (window < 1) = false := decide_eq_false (by omega)
  have k2 : decide (600 < window) = false := decide_eq_false (by omega)
  have k3 : decide (gr < 1) = false := decide_eq_false (by omega)
  have k4 : decide (window < gr) = false := decide_eq_false (by omega)
  go_enter Tryz.func73, Tryz.ntmps73
  go_wp2_with fail
  refine (buckets_w _ _ _ g0).mono ?_
  rintro e w1 ⟨n, rfl, rfl⟩
  go_wp2
  go_ret
  exact ⟨n, rfl, rfl⟩
theorem new_ring (w : World) (window gr n : Int) : Ring gr 0 w.heap.size (w.alloc (.cells (rcw (.slice none 0 0) window gr n (-1) false) 180)) (fun k => k = w.heap.size) :=
  ⟨_, [], _, _, _, _, ⟨fun k hk => by simp [hk], rfl, Blk.new _ _ _, Own.nil _ _ _ _, List.nodup_nil, fun x hx => nomatch hx⟩, Nat.le_refl _⟩
set_option maxHeartbeats 4000000 in
theorem resize_w (w : World) (S : Nat → Prop) (p m : Nat) (gr window : Int) (h : Ring gr m p w S) (g0 : 1 ≤ gr) (hm : m + 1 ≤ 1099511627776) :
    Calls Tryz.prog 128 #[.pointer (some ⟨p, 0, none⟩), .int .i64 window] w fun e w' => ∃ c : Int, e = .returned (.int .i64 c) ∧ Ring gr m p w' S ∧ Chg S w w' := by
  obtain ⟨v, es, wi, n, newest, ov, h, hn⟩ := h
  have c2 : w.cell? ⟨p, 2, none⟩ = some (.int .i64 gr) := Blk.cell h.blk 2
  have c1 : w.cell? ⟨p, 1, none⟩ = some (.int .i64 wi) := Blk.cell h.blk 1
  have c3 : w.cell? ⟨p, 3, none⟩ = some (.int .i64 n) := Blk.cell h.blk 3
  have f1 := Blk.free h.blk 1
  have f3 := Blk.free h.blk 3
  have H := Lib.hid h
  clear h
  by_cases hw : window < gr
  · have k1 : decide (window < gr) = true := decide_eq_true hw
    go_enter Tryz.func128, Tryz.ntmps128
    go_wp2_with fail
    go_ret
    first | exact ⟨_, rfl, ⟨_, _, _, _, _, _, H.out, hn⟩, Chg.refl _ _⟩ | exact ⟨⟨_, rfl⟩, ⟨_, _, _, _, _, _, H.out, hn⟩, Chg.refl _ _⟩
  have k1 : decide (window < gr) = false := decide_eq_false hw
  by_cases hx : 600 < window
  · have k2 : decide (600 < window) = true := decide_eq_true hx
    go_enter Tryz.func128, Tryz.ntmps128
    go_wp2_with fail
    go_ret
    exact ⟨⟨_, rfl⟩, ⟨_, _, _, _, _, _, H.out, hn⟩, Chg.refl _ _⟩
  have k2 : decide (600 < window) = false := decide_eq_false hx
  go_enter Tryz.func128, Tryz.ntmps128
  go_wp2_with fail
  refine (buckets_w _ _ _ g0).mono ?_
  rintro e w1 ⟨n', rfl, rfl⟩
  go_wp2_with fail
  refine (forget_any _ S p gr v es window n' newest ov ((H.out.cell (window' := window) 1 (.int .i64 window) rfl).cell 3 (.int .i64 n') rfl) (by omega)).mono ?_
  rintro e w2 ⟨rfl, ⟨v2, hL⟩, hc⟩
  have HL := Lib.hid hL
  have HC : Hid (Chg S w w2) := (((Chg.refl S w).set (a := ⟨p, 1, none⟩) (fun _ => H.out.own) (.int .i64 window)).set (a := ⟨p, 3, none⟩) (fun _ => H.out.own) (.int .i64 n')).trans hc
  have HK : Hid ((G.kept (old newest n') es).length ≤ m) := Nat.le_trans (List.length_filter_le _ _) hn
  clear hL hc
  go_wp2_with fail
  go_ret
  exact ⟨_, rfl, ⟨_, _, _, _, _, _, HL.out, HK.out⟩, HC.out⟩
end Go.Proofs.YtdgphoemjeakaaaGreatDoor.Wr
