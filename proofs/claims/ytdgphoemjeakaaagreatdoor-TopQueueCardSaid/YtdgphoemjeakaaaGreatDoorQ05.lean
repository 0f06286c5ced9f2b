/- Package ring: Put. Package ring: New, Sum, Mean, Over. Package delay: what its methods do. A region that draws its order, walked by an invariant over what has come up. -/
import Derived.Test.YtdgphoemjeakaaaGreatDoorQ04
import Derived.Test.YtdgphoemjeakaaaGreatDoorQ03
import Derived.Test.YtdgphoemjeakaaaGreatDoorQ01
import Derived.BigQuiet
import Derived.Handy
/-! Package ring: Put. -/
namespace Go.Proofs.YtdgphoemjeakaaaGreatDoor.R
open Go.RowKit Go.Shelf Go.Proofs.YtdgphoemjeakaaaGreatDoor.K
set_option maxRecDepth 100000

theorem chg_new {S : Nat → Prop} {w w' : World} (h : Chg S w w') {b j : Nat} (hb : w.heap.size ≤ b) (v : Value) : Chg S w (w'.setCell ⟨b, j, none⟩ v) := h.set (a := ⟨b, j, none⟩) (fun hlt => absurd hlt (by show ¬ b < _; omega)) v

/-- A bucket more. -/
theorem RingV.push {w1 wX w2 : World} {S : Nat → Prop} {p bn : Nat} {v v' : Value} {es : List (Nat × Bk)} {window n newest : Int} {b : Bk} (h : RingV w1 S p v es window n newest) (hX : Chg No w1 wX) (hB : Blk wX bn #[.int .i64 b.1, .int .i64 0, .int .i64 0, .bool false] 244) (hbn : w1.heap.size ≤ bn)
    (own : Own w2 (K.nx (Arr w1 S) wX w2) 20 1 v' (es.length + 1) ((es.map fun x => Value.iface 245 (bref x)) ++ [.iface 245 (.pointer (some ⟨bn, 0, none⟩))])) (c : Chg (Arr w1 S) wX w2) (s : Int) :
    RingV ((((w2.setCell ⟨p, 0, none⟩ v').setCell ⟨bn, 1, none⟩ (.int .i64 s)).setCell ⟨bn, 2, none⟩ (.int .i64 1)).setCell ⟨bn, 3, none⟩ (.bool false)) (K.nx S w1 ((((w2.setCell ⟨p, 0, none⟩ v').setCell ⟨bn, 1, none⟩ (.int .i64 s)).setCell ⟨bn, 2, none⟩ (.int .i64 1)).setCell ⟨bn, 3, none⟩ (.bool false))) p v' (es ++ [(bn, (b.1, s))]) window n newest := by
  have hp2 := (h.blk.kept hX).chg c (h.blk.no_arr (by decide))
  have hB2 := hB.chg c (fun hA => by have := h.bd bn hA.1; omega)
  have hsz : ((((w2.setCell ⟨p, 0, none⟩ v').setCell ⟨bn, 1, none⟩ (.int .i64 s)).setCell ⟨bn, 2, none⟩ (.int .i64 1)).setCell ⟨bn, 3, none⟩ (.bool false)).heap.size = w2.heap.size := by simp [World.setCell]
  have s1 := hX.size
  have s2 := c.size
  have hne : p ≠ bn := hp2.ne hB2 (by decide)
  have hBa := hB2.other (p := p) (j := 0) hne.symm v'
  have hpa := hp2.set 0 v'
  have hB3 := ((hBa.set 1 (.int .i64 s)).set 2 (.int .i64 1)).set 3 (.bool false)
  have hb1 := hBa.set 1 (.int .i64 s)
  have hb2 := hb1.set 2 (.int .i64 1)
  refine ⟨fun k hk => hk.2, ⟨.inl h.own, by rw [hsz]; exact hp2.lt⟩, ((hpa.other hne _).other hne _).other hne _, ?_, ?_, fun x hx => ?_⟩
  · rw [List.length_append, List.map_append]
    refine Own.other (Own.other (Own.other (Own.other (own.mono fun k hk hS => ?_) hp2 (by decide) v') hBa (by decide) _) hb1 (by decide) _) hb2 (by decide) _
    exact ⟨hS.1.imp (fun h => h.1) (by omega), by rw [hsz]; exact hS.2⟩
  · rw [List.map_append, List.nodup_append]
    refine ⟨h.nodup, by simp, fun a ha b hb => ?_⟩
    obtain ⟨x, hx, rfl⟩ := List.mem_map.1 ha
    have hlt := h.bd _ (h.bks x hx).1
    simp at hb
    omega
  · rcases List.mem_append.1 hx with hx | hx
    · obtain ⟨h1, h2⟩ := h.bks x hx
      have h3 := (h2.kept hX).chg c (h2.no_arr (by decide))
      have hlt := h.bd _ h1
      have hnb : x.1 ≠ bn := by omega
      exact ⟨⟨.inl h1, by rw [hsz]; exact h3.lt⟩, (((h3.other (h3.ne hp2 (by decide)) _).other hnb _).other hnb _).other hnb _⟩
    · rw [List.mem_singleton.1 hx]
      exact ⟨⟨.inr hbn, by rw [hsz]; exact hB2.lt⟩, hB3⟩

set_option maxHeartbeats 1000000 in
theorem same_pred (w : World) (b B : Nat) (x t : Int) (hb : w.cell? ⟨b, 0, none⟩ = some (.int .i64 x)) (hB : w.cell? ⟨B, 0, none⟩ = some (.int .i64 t)) :
    Calls Tryz.prog 161 #[.iface 245 (.pointer (some ⟨b, 0, none⟩)), .pointer (some ⟨B, 0, none⟩)] w fun e w' => e = .returned (.bool (x == t)) ∧ Chg No w w' := by
  go_enter Tryz.func161, Tryz.ntmps161
  go_wp2
  go_quiet (fail)
  go_wp2
  go_ret
  exact ⟨rfl, (Chg.refl _ _).drewN _⟩

set_option maxHeartbeats 4000000 in
theorem put_any (w : World) (S : Nat → Prop) (p : Nat) (v : Value) (es : List (Nat × Bk)) (window n newest t val : Int) (h : RingV w S p v es window n newest) (hn : es.length + 1 ≤ 1099511627776) (hat : ∀ x, x ∈ es → 0 ≤ x.2.1 ∧ x.2.1 ≤ newest) (n0 : -1 ≤ newest) (t0 : newest < t) (t1 : t ≤ 1099511627776) (v0 : 0 ≤ val) (v1 : val ≤ 1125899906842624) (hw : 1 ≤ n) :
    Calls Tryz.prog 129 #[.pointer (some ⟨p, 0, none⟩), .int .i64 t, .int .i64 val] w fun e w' => e = .returned (.int .i64 0) ∧ Ring w' (K.nx S w w') p (((es.map Prod.snd).filter fun b => !decide (n ≤ t - b.1)) ++ [(t, val)]) window n t ∧ Chg S w w' := by
  have eg : ∀ args w, (callFunc 161 args).run Tryz.prog w = .ok (.enter 161 args) w := enters_of Tryz.func161 (by kernel_rfl) rfl
  obtain ⟨i0, hi, hz0, hz1, hz2⟩ := info_parts G.info20
  have k1 : decide (t < 0) = false := decide_eq_false (by omega)
  have k2 : decide (1099511627776 < t) = false := decide_eq_false (by omega)
  have k3 : decide (val < 0) = false := decide_eq_false (by omega)
  have c2 : w.cell? ⟨p, 2, none⟩ = some (.int .i64 1) := Blk.cell h.blk 2
  have c4 : w.cell? ⟨p, 4, none⟩ = some (.int .i64 newest) := Blk.cell h.blk 4
  have f4 := Blk.free h.blk 4
  have hp := h.blk.lt
  have H := Lib.hid h
  have HAT := Lib.hid hat
  clear h hat
  go_enter Tryz.func129, Tryz.ntmps129
  go_wp2
  have hB0 : Blk (w.alloc (.cells #[.int .i64 t] 2)) w.heap.size #[.int .i64 t] 2 := Blk.new w _ _
  have hR0 := H.out.kept ((Chg.refl No w).alloc (.cells #[.int .i64 t] 2))
  have HC0 : Hid (Chg S w (w.alloc (.cells #[.int .i64 t] 2))) := (Chg.refl S w).alloc _
  have hneA : w.heap.size ≠ p := by omega
  have HSZ : Hid (w.heap.size < (w.alloc (.cells #[.int .i64 t] 2)).heap.size) := by show _ < _; simp
  clear c2 c4 f4 hp
  have HBW : Hid (∃ B, B = w.heap.size) := ⟨_, rfl⟩
  have HNS : Hid (¬ S w.heap.size) := fun hS => by have := H.out.bd _ hS; omega
  generalize w.alloc (.cells #[.int .i64 t] 2) = wa at *
  generalize hBw : w.heap.size = B at *
  have HBw := Lib.hid hBw
  clear hBw
  have c4 : wa.cell? ⟨p, 4, none⟩ = some (.int .i64 newest) := Blk.cell hR0.blk 4
  have f4 := Blk.free hR0.blk 4
  have cA : wa.cell? ⟨B, 0, none⟩ = some (.int .i64 t) := Blk.cell hB0 0
  have HR0 := Lib.hid hR0
  have HB0 := Lib.hid hB0
  clear hR0 hB0
  go_region
  all_goals
    have HR1 := Lib.hid ((HR0.out.setNewest t).kept (Chg.refl No _).drew)
    have HB1 : Hid (Blk (wa.setCell ⟨p, 4, none⟩ (.int .i64 t)).drew B #[.int .i64 t] 2) := HB0.out.other hneA (.int .i64 t) (j := 4)
    have HC1 := Lib.hid ((HC0.out.set (a := ⟨p, 4, none⟩) (fun _ => H.out.own) (.int .i64 t)).drew)
    change Exit.then _ _ _ _ (wa.setCell ⟨p, 4, none⟩ (.int .i64 t)).drew
    generalize (wa.setCell ⟨p, 4, none⟩ (.int .i64 t)).drew = w1 at *
    clear c4 f4 cA HR0 HB0 HC0
    go_wp2_with fail
    refine (forget_any w1 S p v es window n t HR1.out (by omega) (fun x hx => by have := HAT.out x hx; omega) (by omega) t1).mono ?_
    rintro e w2 ⟨rfl, ⟨v2, hL⟩, hc⟩
    have HKL : Hid ((G.kept (old t n) es).length ≤ es.length) := List.length_filter_le _ _
    have HKE : Hid ((G.kept (old t n) es).map Prod.snd = (es.map Prod.snd).filter fun b => !decide (n ≤ t - b.1)) := by
      show _ = _
      rw [List.filter_map]
      rfl
    have HKA : Hid (∀ x, x ∈ G.kept (old t n) es → x.2.1 < t) := fun x hx => by have := HAT.out x (List.mem_filter.1 hx).1; omega
    generalize G.kept (old t n) es = ks at *
    have HC2 := Lib.hid (HC1.out.trans hc)
    have hB2 := HB1.out.chg hc HNS.out
    have c0 : w2.cell? ⟨p, 0, none⟩ = some v2 := Blk.cell hL.blk 0
    have c3 : w2.cell? ⟨p, 3, none⟩ = some (.int .i64 n) := Blk.cell hL.blk 3
    have c4 : w2.cell? ⟨p, 4, none⟩ = some (.int .i64 t) := Blk.cell hL.blk 4
    have cA : w2.cell? ⟨B, 0, none⟩ = some (.int .i64 t) := Blk.cell hB2 0
    have HL := Lib.hid hL
    have HB2 := Lib.hid hB2
    have kn : decide (n ≤ t - t) = false := decide_eq_false (by omega)
    have kn0 : decide (n ≤ 0) = false := decide_eq_false (by omega)
    clear hL hB2 hc HR1 HB1 HC1
    go_wp2
    go_quiet (fail)
    go_wp2_with fail
    have HX0 : Hid (Chg No w2 (w2.drewN nq)) := (Chg.refl No w2).drewN nq
    have HBX : Hid (∀ W, Chg No w2 W → W.cell? ⟨B, 0, none⟩ = some (.int .i64 t)) := fun W hW => Blk.cell (HB2.out.kept hW) 0
    have HI := Lib.hid (G.index_func (fun x : Nat × Bk => Value.iface 245 (bref x)) (fun x => x.2.1 == t) ks 161 #[.pointer (some ⟨B, 0, none⟩)] eg (w2.drewN nq) S v2 (HL.out.row.kept HX0.out) (by have := HKL.out; omega) (fun W x hx hc => same_pred W x.1 B x.2.1 t (Blk.cell ((HL.out.bks x hx).2.kept (HX0.out.trans hc)) 0) (HBX.out W (HX0.out.trans hc))))
    refine HI.out.mono ?_
    rintro e w3 ⟨r, rfl, hf, hc⟩
    rcases hf with ⟨rfl, _⟩ | ⟨k, x, hx, rfl, hp, _⟩
    · have hcx := HX0.out.trans hc
      have HL3 := Lib.hid (HL.out.kept hcx)
      have cA3 := HBX.out w3 hcx
      have c03 : w3.cell? ⟨p, 0, none⟩ = some v2 := Blk.cell HL3.out.blk 0
      have HC3 := Lib.hid (HC2.out.trans hcx.of_no)
      obtain ⟨va, cap, hv⟩ := HL3.out.row.sl
      subst hv
      have hkl := HKL.out
      have hpl : p < w3.heap.size := HL3.out.blk.lt
      have hBl : B < w3.heap.size := (HB2.out.kept hcx).lt
      have HA := Lib.hid HL3.out.row.arr
      clear hc hcx c0 c3 c4 cA HI HBX HX0 HL
      go_wp2_with fail
      go_region_law (refine step_app rfl (.tmp 71) (.tmp 76) 58 rfl (Arr w3 S) 20 i0 .nilIface 1 16 Tryz.underlying58 hi hz0 hz1 hz2 rfl _ _ _ (by simp [Act.eval]) (HA.out.kept ((((Chg.refl No w3).drew).alloc _).alloc _)) ⟨w3.heap.size + 1, 0, none⟩ 1 1 [.iface 245 (.pointer (some ⟨w3.heap.size, 0, none⟩))] (by simp [Act.eval]) (by decide) rfl (built_at (by simp)) (by simp [Value.oneCell']) (by simp only [maxLen]; omega) (by omega) ?_; intro g5 o5 c5 w5 ho5 hc5; have bp5 := (HL3.out.blk.kept (by first | exact (((Chg.refl No w3).alloc _).alloc _).drew | exact (((Chg.refl No w3).drew).alloc _).alloc _)).chg hc5 (HL3.out.blk.no_arr (by decide)); have bb5 := Blk.chg (w := (((w3.alloc (.cells #[.int .i64 t, .int .i64 0, .int .i64 0, .bool false] 244)).alloc (.cells #[.iface 245 (.pointer (some ⟨w3.heap.size, 0, none⟩))] 20)).drew)) ((Blk.new w3 #[.int .i64 t, .int .i64 0, .int .i64 0, .bool false] 244).alloc (.cells #[.iface 245 (.pointer (some ⟨w3.heap.size, 0, none⟩))] 20)) hc5 (fun hA => by have := HL3.out.bd _ hA.1; omega); have p05 : w5.cell? ⟨p, 0, none⟩ = some (.slice va ks.length cap) := Blk.cell bp5 0; have fp5 := Blk.free bp5 0; have HO5 := Lib.hid ho5; have HC5 := Lib.hid hc5; have HBB := Lib.hid bb5; have HBP := Lib.hid bp5; clear ho5 hc5 bb5 bp5)
      all_goals
        have hbn : w3.heap.size ≠ p := by omega
        have hX5 : Chg No w3 ((w3.alloc (.cells #[.int .i64 t, .int .i64 0, .int .i64 0, .bool false] 244)).alloc (.cells #[.iface 245 (.pointer (some ⟨w3.heap.size, 0, none⟩))] 20)).drew := (((Chg.refl No w3).alloc _).alloc _).drew
        have HPU := Lib.hid (HL3.out.push (b := (t, val)) hX5 ((Blk.new w3 #[.int .i64 t, .int .i64 0, .int .i64 0, .bool false] 244).alloc _) (Nat.le_refl _) HO5.out HC5.out val)
        have HC6 := Lib.hid ((((HC3.out.trans hX5.of_no).step HC5.out fun k _ h => h.1)).set (a := ⟨p, 0, none⟩) (fun _ => H.out.own) (.slice (some ⟨g5, o5, none⟩) (ks.length + 1) c5))
        have hB6 := HBB.out.other hbn (.slice (some ⟨g5, o5, none⟩) (ks.length + 1) c5) (j := 0)
        have hP6 := HBP.out.set 0 (.slice (some ⟨g5, o5, none⟩) (ks.length + 1) c5)
        have hO6 := HO5.out.other (j := 0) HBP.out (by decide) (.slice (some ⟨g5, o5, none⟩) (ks.length + 1) c5)
        have e6 : (w5.setCell ⟨p, 0, none⟩ (.slice (some ⟨g5, o5, none⟩) (ks.length + 1) c5)).cell? ⟨g5, o5 + ks.length, none⟩ = some (.iface 245 (.pointer (some ⟨w3.heap.size, 0, none⟩))) := by
          rw [hO6.cellAt ks.length (by omega), List.getElem?_append_right (by simp)]
          simp
        have HSW : Hid (w.heap.size ≤ w3.heap.size) := by have h1 := HC3.out.size; exact h1
        generalize hw6 : w5.setCell ⟨p, 0, none⟩ (.slice (some ⟨g5, o5, none⟩) (ks.length + 1) c5) = w6 at *
        generalize hbnv : w3.heap.size = bn at *
        have p06 : w6.cell? ⟨p, 0, none⟩ = some (.slice (some ⟨g5, o5, none⟩) (ks.length + 1) c5) := Blk.cell hP6 0
        have b16 : w6.cell? ⟨bn, 1, none⟩ = some (.int .i64 0) := Blk.cell hB6 1
        have b26 : w6.cell? ⟨bn, 2, none⟩ = some (.int .i64 0) := Blk.cell hB6 2
        have b36 : w6.cell? ⟨bn, 3, none⟩ = some (.bool false) := Blk.cell hB6 3
        have f16 := Blk.free hB6 1
        have f26 := Blk.free hB6 2
        have f36 := Blk.free hB6 3
        have HBN := Lib.hid hbnv
        clear hP6 hB6 hO6 hX5 hw6 hbnv c03 cA3
        go_wp2_with (go_at_call 93; refine (P.add_nn 0 val _ (by omega) v0 (by omega)).mono ?_; rintro e w' ⟨rfl, rfl⟩)
        go_region
        all_goals
          go_wp2
          go_ret
          have hle : w.heap.size ≤ bn := HSW.out
          refine ⟨rfl, ⟨_, _, (HPU.out.mono (T := K.nx S w _) (fun k _ hk => nx_no (by rw [HBN.out]; exact hle) hk) (fun k hk => hk.2)).kept (Chg.refl No _).drew, by rw [List.map_append, HKE.out]; rfl⟩, ?_⟩
          exact (chg_new (chg_new (chg_new HC6.out hle _) hle _) hle _).drew
    · exact absurd hp (by have := HKA.out x (List.mem_of_getElem? hx); simp; omega)

end Go.Proofs.YtdgphoemjeakaaaGreatDoor.R

/-! Package ring: New, Sum, Mean, Over. -/
namespace Go.Proofs.YtdgphoemjeakaaaGreatDoor.R
open Go.RowKit Go.Shelf Go.Proofs.YtdgphoemjeakaaaGreatDoor.K
set_option maxRecDepth 100000

/-- Does a bucket lie in the window that ends at a time? -/
def lies (n t : Int) (b : Bk) : Bool := !decide (t < b.1) && !decide (n ≤ t - b.1)
/-- What was put within the window. -/
def sumB (n t : Int) (bs : List Bk) : Int := ((bs.filter (lies n t)).map Prod.snd).foldl (· + ·) 0
/-- How many were put within the window. -/
def numB (n t : Int) (bs : List Bk) : Int := (bs.filter (lies n t)).length
/-- Their mean. -/
def meanB (n t : Int) (bs : List Bk) : Int := if numB n t bs = 0 then 0 else sumB n t bs / numB n t bs
theorem sumB_snoc (n t : Int) (bs : List Bk) (b : Bk) : sumB n t (bs ++ [b]) = sumB n t bs + if lies n t b then b.2 else 0 := by
  unfold sumB
  rw [List.filter_append, List.map_append, List.foldl_append]
  cases h : lies n t b <;> simp [h]
theorem numB_snoc (n t : Int) (bs : List Bk) (b : Bk) : numB n t (bs ++ [b]) = numB n t bs + if lies n t b then 1 else 0 := by
  unfold numB
  rw [List.filter_append, List.length_append]
  cases h : lies n t b <;> simp [h]
theorem sumB_bd (n t : Int) : ∀ (bs : List Bk), (∀ b, b ∈ bs → 0 ≤ b.2 ∧ b.2 ≤ 1125899906842624) → 0 ≤ sumB n t bs ∧ sumB n t bs ≤ bs.length * 1125899906842624 := by
  intro bs h
  have : ∀ (l : List Bk) (a : Int), (∀ b, b ∈ l → 0 ≤ b.2 ∧ b.2 ≤ 1125899906842624) → a ≤ (l.map Prod.snd).foldl (· + ·) a ∧ (l.map Prod.snd).foldl (· + ·) a ≤ a + l.length * 1125899906842624 := by
    intro l
    induction l with
    | nil => intro a _; simp
    | cons s l ih =>
      intro a h
      have h1 := h s (by simp)
      have h2 := ih (a + s.2) (fun x hx => h x (by simp [hx]))
      simp only [List.map_cons, List.foldl_cons, List.length_cons]
      omega
  have h2 := this (bs.filter (lies n t)) 0 (fun b hb => h b (List.mem_filter.1 hb).1)
  have h3 := List.length_filter_le (lies n t) bs
  unfold sumB
  omega
theorem numB_bd (n t : Int) (bs : List Bk) : 0 ≤ numB n t bs ∧ numB n t bs ≤ bs.length := by
  have h3 := List.length_filter_le (lies n t) bs
  unfold numB
  omega

/-- The ring's own block, its mark laid again. -/
theorem RingV.setOver {w : World} {S : Nat → Prop} {p : Nat} {v : Value} {es : List (Nat × Bk)} {window n newest : Int} (h : RingV w S p v es window n newest) : RingV (w.setCell ⟨p, 5, none⟩ (.bool false)) S p v es window n newest :=
  ⟨by simpa [World.setCell] using h.bd, h.own, h.blk.set 5 _, h.row.other h.blk (by decide) _, h.nodup, fun x hx => ⟨(h.bks x hx).1, (h.bks x hx).2.other ((h.bks x hx).2.ne h.blk (by decide)) _⟩⟩

set_option maxHeartbeats 4000000 in
theorem sum_any (w : World) (S : Nat → Prop) (p : Nat) (v : Value) (es : List (Nat × Bk)) (window n newest t : Int) (h : RingV w S p v es window n newest) (hn : es.length ≤ 1000) (hat : ∀ x, x ∈ es → (0 ≤ x.2.1 ∧ x.2.1 ≤ 1099511627776) ∧ (0 ≤ x.2.2 ∧ x.2.2 ≤ 1125899906842624)) (t0 : 0 ≤ t) (t1 : t ≤ 1099511627776) :
    Calls Tryz.prog 163 #[.pointer (some ⟨p, 0, none⟩), .int .i64 t] w fun e w' => e = .returned (.tuple #[.int .i64 (sumB n t (es.map Prod.snd)), .int .i64 (numB n t (es.map Prod.snd))]) ∧ RingV w' S p v es window n newest ∧ Chg S w w' := by
  have c0 : w.cell? ⟨p, 0, none⟩ = some v := Blk.cell h.blk 0
  have c2 : w.cell? ⟨p, 2, none⟩ = some (.int .i64 1) := Blk.cell h.blk 2
  obtain ⟨va, cap, hv⟩ := h.row.sl
  subst hv
  have H := Lib.hid h
  have HAT := Lib.hid hat
  clear h hat
  have k1 : decide (t < 0) = false := decide_eq_false (by omega)
  go_enter Tryz.func163, Tryz.ntmps163
  go_wp2_with fail
  go_loopw [7, 8, 32] (fun s c i wr => ∃ k : Nat, k ≤ es.length ∧ i = .int .i64 k ∧ s = .int .i64 (sumB n t ((es.map Prod.snd).take k)) ∧ c = .int .i64 (numB n t ((es.map Prod.snd).take k)) ∧ Hid (RingV wr S p (.slice va es.length cap) es window n newest) ∧ Hid (Chg S w wr)) (fun _ _ i _ => es.length - (intOf i).toNat)
  case atStart => exact ⟨0, Nat.zero_le _, rfl, rfl, rfl, H.out, Chg.refl _ _⟩
  case round =>
    obtain ⟨k, hk, rfl, rfl, rfl, HR, HC⟩ := hrel
    by_cases hlt : k < es.length
    · obtain ⟨g, o, rfl, hS, hg, hcap, hmax⟩ := HR.out.row.some_ (by omega)
      obtain ⟨⟨b, a, s⟩, hq⟩ : ∃ x, es[k]? = some x := ⟨es[k], List.getElem?_eq_getElem hlt⟩
      obtain ⟨⟨a0, a1⟩, s0, s1⟩ := HAT.out _ (List.mem_of_getElem? hq)
      obtain ⟨_, hB⟩ := HR.out.bks _ (List.mem_of_getElem? hq)
      have e0 : wr.cell? ⟨g, o + k, none⟩ = some (.iface 245 (.pointer (some ⟨b, 0, none⟩))) := by
        rw [HR.out.row.cellAt k (by omega), List.getElem?_map, hq]
        rfl
      have b0 : wr.cell? ⟨b, 0, none⟩ = some (.int .i64 a) := Blk.cell hB 0
      have b1 : wr.cell? ⟨b, 1, none⟩ = some (.int .i64 s) := Blk.cell hB 1
      have b2 : wr.cell? ⟨b, 2, none⟩ = some (.int .i64 1) := Blk.cell hB 2
      have b3 : wr.cell? ⟨b, 3, none⟩ = some (.bool false) := Blk.cell hB 3
      have p3 : wr.cell? ⟨p, 3, none⟩ = some (.int .i64 n) := Blk.cell HR.out.blk 3
      have p5 : wr.cell? ⟨p, 5, none⟩ = some (.bool false) := Blk.cell HR.out.blk 5
      have f5 := Blk.free HR.out.blk 5
      have hne : b ≠ p := hB.ne HR.out.blk (by decide)
      have hT : (es.map Prod.snd).take (k + 1) = (es.map Prod.snd).take k ++ [(a, s)] := by rw [List.take_add_one, List.getElem?_map, hq]; rfl
      have HN1 := Lib.hid (sumB_snoc n t ((es.map Prod.snd).take k) (a, s))
      have HN2 := Lib.hid (numB_snoc n t ((es.map Prod.snd).take k) (a, s))
      rw [← hT] at HN1 HN2
      obtain ⟨m0, m1⟩ := sumB_bd n t ((es.map Prod.snd).take k) (fun x hx => by
        obtain ⟨y, hy, rfl⟩ := List.mem_map.1 (List.mem_of_mem_take hx)
        exact (HAT.out y hy).2)
      obtain ⟨n0, n1⟩ := numB_bd n t ((es.map Prod.snd).take k)
      have hlen : ((es.map Prod.snd).take k).length = k := by simp; omega
      rw [hlen] at m1 n1
      have m2 : sumB n t ((es.map Prod.snd).take k) ≤ 1125899906842624000 := by omega
      clear m1 hlen hT hq hS hmax hB
      generalize sumB n t ((es.map Prod.snd).take k) = m at *
      generalize numB n t ((es.map Prod.snd).take k) = c at *
      have hlies : lies n t (a, s) = (!decide (t < a) && !decide (n ≤ t - a)) := rfl
      cases x1 : decide (t < a) <;> cases x2 : decide (n ≤ t - a)
      case false.false =>
        rw [x1, x2] at hlies
        rw [hlies] at HN1 HN2
        go_wp2
        go_quiet (fail)
        go_wp2_with (go_at_call 93; refine (P.add_nn m s _ m0 s0 (by omega)).mono ?_; rintro e w' ⟨rfl, rfl⟩)
        have HR2 := Lib.hid ((HR.out.kept ((Chg.refl No wr).drewN nq)).setOver)
        have HC2 := Lib.hid (((HC.out.drewN nq)).set (a := ⟨p, 5, none⟩) (fun _ => HR.out.own) (.bool false))
        go_quiet (fail)
        go_wp2
        go_roundw
        case rel =>
          refine ⟨k + 1, by omega, by go_num, by rw [HN1.out]; simp, by rw [HN2.out]; simp, ?_, ?_⟩
          · exact HR2.out.kept ((Chg.refl No _).drewN _)
          · exact HC2.out.drewN _
        case measure => simp [intOf]; omega
      all_goals
        rw [x1, x2] at hlies
        rw [hlies] at HN1 HN2
        go_wp2
        go_quiet (fail)
        go_wp2
        go_roundw
        case rel =>
          refine ⟨k + 1, by omega, by go_num, by rw [HN1.out]; simp, by rw [HN2.out]; simp, ?_, ?_⟩
          · exact HR.out.kept ((Chg.refl No _).drewN _)
          · exact HC.out.drewN _
        case measure => simp [intOf]; omega
    · obtain rfl : k = es.length := by omega
      rw [List.take_of_length_le (by simp)]
      go_wp2
      go_ret2
      exact ⟨rfl, HR.out, HC.out⟩

set_option maxHeartbeats 2000000 in
theorem mean_any (w : World) (S : Nat → Prop) (p : Nat) (bs : List Bk) (window n newest t : Int) (h : Ring w S p bs window n newest) (hn : bs.length ≤ 1000) (hat : ∀ x, x ∈ bs → (0 ≤ x.1 ∧ x.1 ≤ 1099511627776) ∧ (0 ≤ x.2 ∧ x.2 ≤ 1125899906842624)) (t0 : 0 ≤ t) (t1 : t ≤ 1099511627776) :
    Calls Tryz.prog 133 #[.pointer (some ⟨p, 0, none⟩), .int .i64 t] w fun e w' => e = .returned (.int .i64 (meanB n t bs)) ∧ Ring w' S p bs window n newest ∧ Chg S w w' := by
  obtain ⟨v, es, h, rfl⟩ := h
  rw [List.length_map] at hn
  have HS := Lib.hid (sum_any w S p v es window n newest t h hn (fun x hx => hat x.2 (List.mem_map.2 ⟨x, hx, rfl⟩)) t0 t1)
  obtain ⟨s0, s1⟩ := sumB_bd n t (es.map Prod.snd) (fun x hx => (hat x hx).2)
  obtain ⟨n0, n1⟩ := numB_bd n t (es.map Prod.snd)
  rw [List.length_map] at s1 n1
  have s2 : sumB n t (es.map Prod.snd) ≤ 1125899906842624000 := by omega
  have HM : Hid (meanB n t (es.map Prod.snd) = if numB n t (es.map Prod.snd) = 0 then 0 else sumB n t (es.map Prod.snd) / numB n t (es.map Prod.snd)) := rfl
  have HX : Hid (∀ w', RingV w' S p v es window n newest → Ring w' S p (es.map Prod.snd) window n newest) := fun w' h => ⟨v, es, h, rfl⟩
  clear h hat s1
  generalize sumB n t (es.map Prod.snd) = s at *
  generalize numB n t (es.map Prod.snd) = c at *
  generalize meanB n t (es.map Prod.snd) = m at *
  by_cases h0 : c = 0
  · have k1 : (c == 0) = true := beq_iff_eq.2 h0
    have HM2 : Hid (m = 0) := by show _ = _; rw [HM.out, if_pos h0]
    clear h0 HM
    go_enter Tryz.func133, Tryz.ntmps133
    go_wp2_with fail
    refine HS.out.mono ?_
    rintro e w1 ⟨rfl, hr, hc⟩
    have HR := Lib.hid hr
    have HC := Lib.hid hc
    clear hr hc
    go_wp2
    go_ret
    exact ⟨by rw [HM2.out]; rfl, HX.out _ HR.out, HC.out⟩
  · have k1 : (c == 0) = false := beq_eq_false_iff_ne.2 h0
    have HM2 : Hid (m = s / c) := by show _ = _; rw [HM.out, if_neg h0]
    have q1 : IntKind.i64.wrap (s.tdiv c) = s / c := by
      rw [Int.tdiv_eq_ediv_of_nonneg s0, IntKind.wrap_i64]
      have := Int.ediv_nonneg (a := s) (b := c) s0 n0
      have := Int.ediv_le_self (a := s) c s0
      omega
    clear HM
    go_enter Tryz.func133, Tryz.ntmps133
    go_wp2_with fail
    refine HS.out.mono ?_
    rintro e w1 ⟨rfl, hr, hc⟩
    have HR := Lib.hid hr
    have HC := Lib.hid hc
    clear hr hc
    go_wp2
    go_ret
    exact ⟨by rw [HM2.out]; rfl, HX.out _ HR.out, HC.out⟩

set_option maxHeartbeats 1000000 in
theorem over_any (w : World) (S : Nat → Prop) (p : Nat) (bs : List Bk) (window n newest : Int) (h : Ring w S p bs window n newest) : Calls Tryz.prog 106 #[.pointer (some ⟨p, 0, none⟩)] w fun e w' => e = .returned (.bool false) ∧ w = w' := by
  obtain ⟨v, es, h, _⟩ := h
  have p5 : w.cell? ⟨p, 5, none⟩ = some (.bool false) := Blk.cell h.blk 5
  clear h
  go_enter Tryz.func106, Tryz.ntmps106
  go_wp2
  go_ret
  exact ⟨rfl, rfl⟩

set_option maxHeartbeats 1000000 in
theorem new_any (window : Int) (w : World) (w0 : 1 ≤ window) (w1 : window ≤ 600) : Calls Tryz.prog 73 #[.int .i64 window, .int .i64 1] w fun e w' => e = .returned (.pointer (some ⟨w.heap.size, 0, none⟩)) ∧ w' = w.alloc (.cells #[.slice none 0 0, .int .i64 window, .int .i64 1, .int .i64 window, .int .i64 (-1), .bool false] 180) := by
  have k1 : decide (window < 1) = false := decide_eq_false (by omega)
  have k2 : decide (600 < window) = false := decide_eq_false (by omega)
  have k3 : decide (window < (1 : Int)) = false := decide_eq_false (by omega)
  have e1 : window.tdiv 1 = window := by simp
  go_enter Tryz.func73, Tryz.ntmps73
  go_wp2_with go_in
  go_ret
  exact ⟨rfl, rfl⟩
theorem new_rep (w : World) (window : Int) : Ring (w.alloc (.cells #[.slice none 0 0, .int .i64 window, .int .i64 1, .int .i64 window, .int .i64 (-1), .bool false] 180)) (fun k => k = w.heap.size) w.heap.size [] window window (-1) :=
  ⟨.slice none 0 0, [], ⟨fun k hk => by subst hk; simp, rfl, Blk.new _ _ _, Own.nil _ _ _ _, List.nodup_nil, fun x hx => by cases hx⟩, rfl⟩

end Go.Proofs.YtdgphoemjeakaaaGreatDoor.R

/-! Package delay: what its methods do. -/
namespace Go.Proofs.YtdgphoemjeakaaaGreatDoor.Dl
open Go.RowKit Go.Shelf Go.Proofs.YtdgphoemjeakaaaGreatDoor.K
set_option maxRecDepth 100000

/-- How many were wanted at a time. -/
abbrev Wish := Int × Int
def wish (x : Wish) : Value := .agg #[.int .i64 x.1, .int .i64 x.2]
structure DelayV (w : World) (S : Nat → Prop) (p : Nat) (v : Value) (l : List Wish) (last : Int) : Prop where
  bd : ∀ k, S k → k < w.heap.size
  own : S p
  blk : Blk w p #[v, .int .i64 0, .int .i64 last] 134
  row : Own w S 20 1 v l.length (l.map fun x => Value.iface 218 (wish x))
def Delay (w : World) (S : Nat → Prop) (p : Nat) (l : List Wish) (last : Int) : Prop := ∃ v, DelayV w S p v l last

section
variable {w w' : World} {S T : Nat → Prop} {p : Nat} {v : Value} {l : List Wish} {last : Int}
theorem DelayV.chg (h : DelayV w S p v l last) (c : Chg T w w') (hd : ∀ k, S k → T k → False) : DelayV w' S p v l last :=
  ⟨fun k hk => Nat.lt_of_lt_of_le (h.bd k hk) c.size, h.own, h.blk.chg c (hd p h.own), h.row.chg c hd⟩
theorem DelayV.kept (h : DelayV w S p v l last) (c : Chg No w w') : DelayV w' S p v l last := h.chg c fun _ _ h => h
theorem DelayV.mono (h : DelayV w S p v l last) (hs : ∀ k, k < w.heap.size → S k → T k) (hb : ∀ k, T k → k < w.heap.size) : DelayV w T p v l last :=
  ⟨hb, hs p h.blk.lt h.own, h.blk, h.row.mono hs⟩
theorem Delay.chg (h : Delay w S p l last) (c : Chg T w w') (hd : ∀ k, S k → T k → False) : Delay w' S p l last := by
  obtain ⟨v, h⟩ := h
  exact ⟨v, h.chg c hd⟩
theorem Delay.kept (h : Delay w S p l last) (c : Chg No w w') : Delay w' S p l last := h.chg c fun _ _ h => h
theorem Delay.mono (h : Delay w S p l last) (hs : ∀ k, k < w.heap.size → S k → T k) (hb : ∀ k, T k → k < w.heap.size) : Delay w T p l last := by
  obtain ⟨v, h⟩ := h
  exact ⟨v, h.mono hs hb⟩
theorem DelayV.setLast (h : DelayV w S p v l last) (t : Int) : DelayV (w.setCell ⟨p, 2, none⟩ (.int .i64 t)) S p v l t :=
  ⟨by simpa [World.setCell] using h.bd, h.own, h.blk.set 2 _, h.row.other h.blk (by decide) _⟩
theorem DelayV.filter (h : DelayV w S p v l last) {v' : Value} (q : Wish → Bool) (own : Own w' (Arr w S) 20 1 v' (G.kept q l).length ((G.kept q l).map fun x => Value.iface 218 (wish x))) (c : Chg (Arr w S) w w') : DelayV (w'.setCell ⟨p, 0, none⟩ v') S p v' (G.kept q l) last := by
  have hb := h.blk.chg c (h.blk.no_arr (by decide))
  exact ⟨fun k hk => by have := h.bd k hk; have := c.size; simp [World.setCell]; omega, h.own, hb.set 0 v', (own.mono fun _ _ h => h.1).other hb (by decide) v'⟩
theorem DelayV.push {w1 wX w2 : World} {v' : Value} {t n : Int} (h : DelayV w1 S p v l last) (hX : Chg No w1 wX) (own : Own w2 (K.nx (Arr w1 S) wX w2) 20 1 v' (l.length + 1) ((l.map fun x => Value.iface 218 (wish x)) ++ [.iface 218 (wish (t, n))])) (c : Chg (Arr w1 S) wX w2) :
    DelayV (w2.setCell ⟨p, 0, none⟩ v') (K.nx S w1 (w2.setCell ⟨p, 0, none⟩ v')) p v' (l ++ [(t, n)]) last := by
  have hb := (h.blk.kept hX).chg c (h.blk.no_arr (by decide))
  have hsz : (w2.setCell ⟨p, 0, none⟩ v').heap.size = w2.heap.size := by simp [World.setCell]
  have s1 := hX.size
  refine ⟨fun k hk => hk.2, ⟨.inl h.own, by rw [hsz]; exact hb.lt⟩, hb.set 0 v', ?_⟩
  rw [List.length_append, List.map_append]
  refine Own.other (own.mono fun k hk hS => ?_) hb (by decide) v'
  exact ⟨hS.1.imp (fun h => h.1) (by omega), by rw [hsz]; exact hS.2⟩
end

set_option maxHeartbeats 1000000 in
theorem new_any (w : World) : Calls Tryz.prog 41 #[.int .i64 0] w fun e w' => e = .returned (.pointer (some ⟨w.heap.size, 0, none⟩)) ∧ w' = w.alloc (.cells #[.slice none 0 0, .int .i64 0, .int .i64 0] 134) := by
  go_enter Tryz.func41, Tryz.ntmps41
  go_wp2
  go_ret
  exact ⟨rfl, rfl⟩
theorem new_rep (w : World) : Delay (w.alloc (.cells #[.slice none 0 0, .int .i64 0, .int .i64 0] 134)) (fun k => k = w.heap.size) w.heap.size [] 0 :=
  ⟨.slice none 0 0, fun k hk => by subst hk; simp, rfl, Blk.new _ _ _, Own.nil _ _ _ _⟩

set_option maxHeartbeats 1000000 in
theorem far_pred (w : World) (B : Nat) (x n t : Int) (hB : w.cell? ⟨B, 0, none⟩ = some (.int .i64 t)) (x0 : 0 ≤ x) (x1 : x ≤ 1099511627776) (t0 : 0 ≤ t) (t1 : t ≤ 1099511627776) (hb : B < w.heap.size) :
    Calls Tryz.prog 141 #[.iface 218 (.agg #[.int .i64 x, .int .i64 n]), .pointer (some ⟨B, 0, none⟩)] w fun e w' => e = .returned (.bool (decide (600 < t - x))) ∧ Chg No w w' := by
  go_enter Tryz.func141, Tryz.ntmps141
  go_wp2
  go_ret
  exact ⟨rfl, (Chg.refl No w).alloc _⟩

/-- Was that too long ago? -/
def far (t : Int) (x : Wish) : Bool := decide (600 < t - x.1)

set_option maxHeartbeats 4000000 in
theorem put_any (w : World) (S : Nat → Prop) (p : Nat) (l : List Wish) (last t n : Int) (h : Delay w S p l last) (hn : l.length + 1 ≤ 1099511627776) (hat : ∀ x, x ∈ l → 0 ≤ x.1 ∧ x.1 ≤ 1099511627776) (l0 : 0 ≤ last) (t0 : last ≤ t) (t1 : t ≤ 1099511627776) (n0 : 0 ≤ n) (n1 : n ≤ 1000000) :
    Calls Tryz.prog 100 #[.pointer (some ⟨p, 0, none⟩), .int .i64 t, .int .i64 n] w fun e w' => e = .returned (.int .i64 0) ∧ Delay w' (K.nx S w w') p (G.kept (far t) l ++ [(t, n)]) t ∧ Chg S w w' := by
  obtain ⟨v, h⟩ := h
  have eg : ∀ args w, (callFunc 141 args).run Tryz.prog w = .ok (.enter 141 args) w := enters_of Tryz.func141 (by kernel_rfl) rfl
  obtain ⟨i0, hi, hz0, hz1, hz2⟩ := info_parts G.info20
  have k1 : decide (t < last) = false := decide_eq_false (by omega)
  have k2 : decide (1099511627776 < t) = false := decide_eq_false (by omega)
  have k3 : decide (n < 0) = false := decide_eq_false (by omega)
  have k4 : decide (1000000 < n) = false := decide_eq_false (by omega)
  have hB0 : Blk (w.alloc (.cells #[.int .i64 t] 2)) w.heap.size #[.int .i64 t] 2 := Blk.new w _ _
  have hR0 := h.kept ((Chg.refl No w).alloc (.cells #[.int .i64 t] 2))
  have HC0 : Hid (Chg S w (w.alloc (.cells #[.int .i64 t] 2))) := (Chg.refl S w).alloc _
  have hneA : w.heap.size ≠ p := by have := h.blk.lt; omega
  have HNS : Hid (¬ S w.heap.size) := fun hS => by have := h.bd _ hS; omega
  have HO := Lib.hid h.own
  have HAT := Lib.hid hat
  have HSW : Hid (w.heap.size < (w.alloc (.cells #[.int .i64 t] 2)).heap.size) := by show _ < _; simp
  obtain ⟨va0, cap0, hv0⟩ := h.row.sl
  subst hv0
  have c0 : (w.alloc (.cells #[.int .i64 t] 2)).cell? ⟨p, 0, none⟩ = some (.slice va0 l.length cap0) := Blk.cell hR0.blk 0
  have c2 : (w.alloc (.cells #[.int .i64 t] 2)).cell? ⟨p, 2, none⟩ = some (.int .i64 last) := Blk.cell hR0.blk 2
  have f2 := Blk.free hR0.blk 2
  have cA : (w.alloc (.cells #[.int .i64 t] 2)).cell? ⟨w.heap.size, 0, none⟩ = some (.int .i64 t) := Blk.cell hB0 0
  have HR0 := Lib.hid hR0
  have HB0 := Lib.hid hB0
  clear h hat hR0 hB0
  go_enter Tryz.func100, Tryz.ntmps100
  go_wp2_with fail
  generalize w.alloc (.cells #[.int .i64 t] 2) = wa at *
  generalize hBw : w.heap.size = B at *
  have HBw := Lib.hid hBw
  clear hBw
  go_wp2_with fail
  go_quiet (fail)
  go_wp2_with fail
  have hR1 := (HR0.out.kept ((Chg.refl No wa).drewN nq)).setLast t
  have hB1 : Blk ((wa.drewN nq).setCell ⟨p, 2, none⟩ (.int .i64 t)) B #[.int .i64 t] 2 := Blk.other (w := wa.drewN nq) HB0.out hneA _
  have HC1 := Lib.hid ((HC0.out.drewN nq).set (a := ⟨p, 2, none⟩) (fun _ => HO.out) (.int .i64 t))
  have HD := Lib.hid (G.delete_func 218 wish (far t) l 141 #[.pointer (some ⟨B, 0, none⟩)] eg _ (Arr ((wa.drewN nq).setCell ⟨p, 2, none⟩ (.int .i64 t)) S) _ hR1.row.arr (by omega) fun W' x hx hc => by
    have b2 := hB1.chg hc (hB1.no_arr (by decide))
    exact far_pred W' B x.1 x.2 t (Blk.cell b2 0) (HAT.out x hx).1 (HAT.out x hx).2 (by omega) t1 b2.lt)
  have HR1 := Lib.hid hR1
  have HB1 := Lib.hid hB1
  clear hR1 hB1
  refine HD.out.mono ?_
  rintro e w2 ⟨v2, rfl, ho, hc⟩
  have hKL : (G.kept (far t) l).length ≤ l.length := List.length_filter_le _ _
  have bp := HR1.out.blk.chg hc (HR1.out.blk.no_arr (by decide))
  have p0 : w2.cell? ⟨p, 0, none⟩ = some (.slice va0 l.length cap0) := Blk.cell bp 0
  have fp := Blk.free bp 0
  have HF := Lib.hid (HR1.out.filter (far t) ho hc)
  have HBF := Lib.hid ((HB1.out.chg hc (HB1.out.no_arr (by decide))).other hneA v2 (j := 0))
  have HCF := Lib.hid (((HC1.out.trans (hc.mono fun _ _ h => h.1))).set (a := ⟨p, 0, none⟩) (fun _ => HO.out) v2)
  obtain ⟨va2, cap2, hv2⟩ := ho.sl
  subst hv2
  have pp0 : (w2.setCell ⟨p, 0, none⟩ (.slice va2 (G.kept (far t) l).length cap2)).cell? ⟨p, 0, none⟩ = some (.slice va2 (G.kept (far t) l).length cap2) := Blk.cell HF.out.blk 0
  have ppf := Blk.free HF.out.blk 0
  have ppA : (w2.setCell ⟨p, 0, none⟩ (.slice va2 (G.kept (far t) l).length cap2)).cell? ⟨B, 0, none⟩ = some (.int .i64 t) := Blk.cell HBF.out 0
  clear c0 c2 f2 cA ho hc bp HD HR1 HB1 HC1 HR0 HB0 HC0
  go_wp2_with fail
  generalize hks : G.kept (far t) l = ks at *
  have HKS := Lib.hid hks
  clear hks
  generalize w2.setCell ⟨p, 0, none⟩ (.slice va2 ks.length cap2) = w3 at *
  have hpl : p < w3.heap.size := HF.out.blk.lt
  have hBl : B < w3.heap.size := HBF.out.lt
  have HA := Lib.hid HF.out.row.arr
  go_region_law (refine step_app rfl (.tmp 46) (.tmp 51) 58 rfl (Arr w3 S) 20 i0 .nilIface 1 16 Tryz.underlying58 hi hz0 hz1 hz2 rfl _ _ _ (by simp [Act.eval]) (HA.out.kept ((Chg.refl No w3).drew.alloc _)) ⟨w3.heap.size, 0, none⟩ 1 1 [.iface 218 (.agg #[.int .i64 t, .int .i64 n])] (by simp [Act.eval]) (by decide) rfl (built_at (by simp)) (by simp [Value.oneCell']) (by simp only [maxLen]; omega) (by omega) ?_; intro g5 o5 c5 w5 ho5 hc5; have hPU := HF.out.push (t := t) (n := n) (by first | exact ((Chg.refl No w3).alloc _).drew | exact ((Chg.refl No w3).drew).alloc _) ho5 hc5; have bp5 := (HF.out.blk.kept (by first | exact ((Chg.refl No w3).alloc _).drew | exact ((Chg.refl No w3).drew).alloc _)).chg hc5 (HF.out.blk.no_arr (by decide)); have p05 : w5.cell? ⟨p, 0, none⟩ = some (.slice va2 ks.length cap2) := Blk.cell bp5 0; have fp5 := Blk.free bp5 0; have HPU := Lib.hid hPU; have HC5 := Lib.hid hc5; clear ho5 hc5 bp5 hPU)
  all_goals
    go_wp2
    go_ret
    rw [HKS.out]
    refine ⟨rfl, ⟨_, HPU.out.mono (fun k _ hk => nx_no HCF.out.size hk) fun k hk => hk.2⟩, ?_⟩
    first
    | exact (((HCF.out.alloc _).drew).step HC5.out fun k _ h => h.1).set (a := ⟨p, 0, none⟩) (fun _ => HO.out) _
    | exact (((HCF.out.drew).alloc _).step HC5.out fun k _ h => h.1).set (a := ⟨p, 0, none⟩) (fun _ => HO.out) _

/-- The greatest that holds at a time (where nothing holds for longer). -/
def mostD (t : Int) (l : List Wish) : Int := ((l.filter fun x => decide (t ≤ x.1)).map Prod.snd).foldl max 0
theorem mostD_snoc (t : Int) (l : List Wish) (x : Wish) : mostD t (l ++ [x]) = if t ≤ x.1 then max (mostD t l) x.2 else mostD t l := by
  unfold mostD
  rw [List.filter_append, List.map_append, List.foldl_append]
  by_cases h : t ≤ x.1 <;> simp [h]
theorem mostD_bd (t : Int) : ∀ (l : List Wish), (∀ x, x ∈ l → 0 ≤ x.2 ∧ x.2 ≤ 1000000) → 0 ≤ mostD t l ∧ mostD t l ≤ 1000000 := by
  intro l h
  have : ∀ (l : List Wish) (a : Int), 0 ≤ a ∧ a ≤ 1000000 → (∀ x, x ∈ l → 0 ≤ x.2 ∧ x.2 ≤ 1000000) → 0 ≤ (l.map Prod.snd).foldl max a ∧ (l.map Prod.snd).foldl max a ≤ 1000000 := by
    intro l
    induction l with
    | nil => intro a ha _; simpa using ha
    | cons s l ih =>
      intro a ha h
      have h1 := h s (by simp)
      exact ih (max a s.2) (by omega) (fun x hx => h x (by simp [hx]))
  exact this _ 0 (by omega) (fun x hx => h x (List.mem_filter.1 hx).1)

set_option maxHeartbeats 4000000 in
theorem most_any (w : World) (S : Nat → Prop) (p : Nat) (l : List Wish) (last t : Int) (h : Delay w S p l last) (hn : l.length ≤ 1099511627776) (hat : ∀ x, x ∈ l → (0 ≤ x.1 ∧ x.1 ≤ t) ∧ (0 ≤ x.2 ∧ x.2 ≤ 1000000)) (t0 : 0 ≤ t) (t1 : t ≤ 1099511627776) :
    Calls Tryz.prog 102 #[.pointer (some ⟨p, 0, none⟩), .int .i64 t] w fun e w' => e = .returned (.int .i64 (mostD t l)) ∧ Chg No w w' := by
  obtain ⟨v, h⟩ := h
  have c0 : w.cell? ⟨p, 0, none⟩ = some v := Blk.cell h.blk 0
  obtain ⟨va, cap, hv⟩ := h.row.sl
  subst hv
  have H := Lib.hid h
  have HAT := Lib.hid hat
  clear h hat
  go_enter Tryz.func102, Tryz.ntmps102
  go_wp2_with fail
  go_loopw [5, 19] (fun s i wr => ∃ k : Nat, k ≤ l.length ∧ i = .int .i64 k ∧ s = .int .i64 (mostD t (l.take k)) ∧ Hid (Chg No w wr)) (fun _ i _ => l.length - (intOf i).toNat)
  case atStart => exact ⟨0, Nat.zero_le _, rfl, rfl, Chg.refl _ _⟩
  case round =>
    obtain ⟨k, hk, rfl, rfl, HC⟩ := hrel
    by_cases hlt : k < l.length
    · have HR := Lib.hid (H.out.kept HC.out)
      obtain ⟨g, o, rfl, hS, hg, hcap, hmax⟩ := HR.out.row.some_ (by omega)
      obtain ⟨⟨a, s⟩, hq⟩ : ∃ x, l[k]? = some x := ⟨l[k], List.getElem?_eq_getElem hlt⟩
      obtain ⟨⟨a0, a1⟩, s0, s1⟩ := HAT.out _ (List.mem_of_getElem? hq)
      have e0 : wr.cell? ⟨g, o + k, none⟩ = some (.iface 218 (.agg #[.int .i64 a, .int .i64 s])) := by
        rw [HR.out.row.cellAt k (by omega), List.getElem?_map, hq]
        rfl
      have p1 : wr.cell? ⟨p, 1, none⟩ = some (.int .i64 0) := Blk.cell HR.out.blk 1
      have hpl := HR.out.blk.lt
      have hT : l.take (k + 1) = l.take k ++ [(a, s)] := by rw [List.take_add_one, hq]; rfl
      have HN := Lib.hid (mostD_snoc t (l.take k) (a, s))
      rw [← hT] at HN
      obtain ⟨m0, m1⟩ := mostD_bd t (l.take k) (fun x hx => (HAT.out x (List.mem_of_mem_take hx)).2)
      clear hT hq hS hmax
      generalize mostD t (l.take k) = m at *
      by_cases hta : t ≤ a
      · have x1 : decide (t ≤ a) = true := decide_eq_true hta
        have HN2 : Hid (mostD t (l.take (k + 1)) = max m s) := by show _ = _; rw [HN.out, if_pos hta]
        by_cases hms : m < s
        all_goals
          go_wp2
          go_quiet (fail)
          go_wp2
          go_roundw
          case rel =>
            refine ⟨k + 1, by omega, by go_num, ?_, (HC.out.alloc _).drewN _⟩
            rw [HN2.out]
            congr 1
            omega
          case measure => simp [intOf]; omega
      · have x1 : decide (t ≤ a) = false := decide_eq_false hta
        have x2 : decide (t - a < 0) = false := decide_eq_false (by omega)
        have HN2 : Hid (mostD t (l.take (k + 1)) = m) := by show _ = _; rw [HN.out, if_neg hta]
        go_wp2
        go_quiet (fail)
        go_wp2
        go_roundw
        case rel => exact ⟨k + 1, by omega, by go_num, by rw [HN2.out], (HC.out.alloc _).drewN _⟩
        case measure => simp [intOf]; omega
    · obtain rfl : k = l.length := by omega
      rw [List.take_length]
      go_wp2
      go_ret
      exact ⟨rfl, HC.out⟩

end Go.Proofs.YtdgphoemjeakaaaGreatDoor.Dl

/-! A region that draws its order, walked by an invariant over what has come up. -/
namespace Go.Proofs.YtdgphoemjeakaaaGreatDoor.W
open Go.RowKit Go.Proofs.YtdgphoemjeakaaaGreatDoor.K Go.Proofs.YtdgphoemjeakaaaGreatDoor.P

section
variable {P : Program} {ops : Array Oper} {Q : Exit → Act → World → Prop} {md : Region.Mode}

theorem all_listed (hac : ∀ (i : Nat) o, ops[i]? = some o → ∀ e ∈ o.after, Region.binds md e = true → e.on < i) {listed : Array Bool} (hs : listed.size = ops.size)
    (hr : Region.ready md ops listed = []) : ∀ n i, i < n → i < ops.size → listed.getD i false = true := by
  intro n
  induction n with
  | zero => intro i h; omega
  | succ n ih =>
    intro i h hi
    by_cases hl : listed.getD i false = true
    · exact hl
    · have hm : i ∈ Region.ready md ops listed := by
        rw [mem_ready]
        refine ⟨?_, ops[i], Array.getElem?_eq_getElem hi, fun e he hb => ?_⟩
        · have h2 : i < listed.size := by omega
          simp only [Array.getD, h2, dif_pos] at hl ⊢
          simpa using hl
        · have h3 := hac i _ (Array.getElem?_eq_getElem hi) e he hb
          exact ih e.on (by omega) (by omega)
      rw [hr] at hm; cases hm

theorem wpAny_inv (I : (Nat → Bool) → Act → World → Prop)
    (hac : ∀ (i : Nat) o, ops[i]? = some o → ∀ e ∈ o.after, Region.binds md e = true → e.on < i)
    (hstep : ∀ (L : Nat → Bool) (i : Nat) (o : Oper) (a : Act) (w : World), ops[i]? = some o → L i = false → (∀ e ∈ o.after, Region.binds md e = true → L e.on = true) → I L a w →
      wpOp P ops Q i (I (fun j => j == i || L j)) a w)
    (hend : ∀ (L : Nat → Bool) a w, (∀ i, i < ops.size → L i = true) → I L a w → Q .normal a w) :
    ∀ (fuel : Nat) (listed : Array Bool) (a : Act) (w : World), listed.size = ops.size → listed.toList.count false ≤ fuel → I (fun j => listed.getD j false) a w → wpAny P md ops Q fuel listed a w := by
  intro fuel
  induction fuel with
  | zero =>
    intro listed a w hs hc hI
    have hr : Region.ready md ops listed = [] := by
      cases hr : Region.ready md ops listed with
      | nil => rfl
      | cons x xs =>
        have hm : x ∈ Region.ready md ops listed := by rw [hr]; exact List.mem_cons_self
        have h0 := (mem_ready.1 hm).1
        have hx : x < listed.size := by
          rcases Nat.lt_or_ge x listed.size with h | h
          · exact h
          · simp [Array.getD, Nat.not_lt.2 h] at h0
        have : false ∈ listed.toList := by
          simp only [Array.getD, hx, dif_pos] at h0
          rw [← h0]; simp
        have := List.count_pos_iff.2 this
        omega
    exact ⟨hr, hend _ _ _ (fun i hi => all_listed hac hs hr (i + 1) i (by omega) hi) hI⟩
  | succ fuel ih =>
    intro listed a w hs hc hI
    refine ⟨fun hr => hend _ _ _ (fun i hi => all_listed hac hs hr (i + 1) i (by omega) hi) hI, fun i hi => ?_⟩
    obtain ⟨h0, o, ho, hall⟩ := mem_ready.1 hi
    have hx : i < listed.size := by
      rcases Nat.lt_or_ge i listed.size with h | h
      · exact h
      · simp [Array.getD, Nat.not_lt.2 h] at h0
    have h1 : listed.getD i false = false := by
      simp only [Array.getD, hx, dif_pos] at h0 ⊢; exact h0
    have hget : listed.toList[i] = false := by
      simp only [Array.getD, hx, dif_pos] at h0; simpa using h0
    refine wpOp_mono (fun a' w' h => ih _ _ _ (by simpa using hs) ?_ ?_) (hstep _ i o a w ho h1 (fun e he hb => hall e he hb) hI)
    · rw [Array.toList_setIfInBounds, List.count_set (by simpa using hx)]
      have hp : 0 < listed.toList.count false := List.count_pos_iff.2 (hget ▸ List.getElem_mem _)
      have e1 : (false == false) = true := rfl
      have e2 : (true == false) = false := rfl
      simp only [hget, e1, e2, if_true, Bool.false_eq_true, if_false]
      omega
    · have : (fun j => (listed.setIfInBounds i true).getD j false) = (fun j => j == i || listed.getD j false) := by
        funext j
        by_cases hj : i = j
        · subst hj; simp [hx]
        · rw [getD_set_ne false hj]; simp [Ne.symm hj]
      rw [this]; exact h
end

/-- The regions of a code, with their numbers. -/
def regs : Code → List (Nat × Array Oper)
  | .region id ops _ => [(id, ops)]
  | .seq a b => regs a ++ regs b
  | .cond _ a b => regs a ++ regs b
  | .block _ b => regs b
  | .loop b => regs b
  | .scope b => regs b
  | _ => []
noncomputable def opsW : Array Oper := (((regs (Tryz.f39.body.getD .skip)).find? (·.1 == 4)).map (·.2)).getD #[]
theorem opsW_size : opsW.size = 121 := by kernel_rfl
/-- The edges' ends are before. -/
def acyc (ops : Array Oper) : Bool := (List.range ops.size).all fun i => ((ops[i]?).map fun o => o.after.all fun e => decide (e.on < i)).getD true
theorem opsW_acyc : acyc opsW = true := by kernel_rfl
theorem acyc_spec {ops : Array Oper} {md : Region.Mode} (h : acyc ops = true) : ∀ (i : Nat) o, ops[i]? = some o → ∀ e ∈ o.after, Region.binds md e = true → e.on < i := by
  intro i o ho e he _
  unfold acyc at h
  rw [List.all_eq_true] at h
  have h1 := h i (List.mem_range.2 (Array.getElem?_eq_some_iff.1 ho).1)
  simp only [ho, Option.map_some, Option.getD_some] at h1
  rw [Array.all_eq_true_iff_forall_mem] at h1
  exact of_decide_eq_true (h1 e he)
/-- Does operation i come after k? -/
def dep (ops : Array Oper) (i k : Nat) : Bool := ((ops[i]?).map fun o => o.after.any fun e => Region.binds .any e && e.on == k).getD false
theorem dep_spec {ops : Array Oper} {L : Nat → Bool} {i : Nat} {o : Oper} (ho : ops[i]? = some o) (h : ∀ e ∈ o.after, Region.binds .any e = true → L e.on = true) {k : Nat} (hk : dep ops i k = true) : L k = true := by
  unfold dep at hk
  simp only [ho, Option.map_some, Option.getD_some] at hk
  rw [Array.any_eq_true'] at hk
  obtain ⟨e, he, hb⟩ := hk
  simp only [Bool.and_eq_true, beq_iff_eq] at hb
  exact hb.2 ▸ h e he hb.1
end Go.Proofs.YtdgphoemjeakaaaGreatDoor.W
