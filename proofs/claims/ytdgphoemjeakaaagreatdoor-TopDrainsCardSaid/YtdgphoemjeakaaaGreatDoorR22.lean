/- Package decide: Next. -/
import Derived.Test.YtdgphoemjeakaaaGreatDoorR20
import Derived.Test.YtdgphoemjeakaaaGreatDoorR21
namespace Go.Proofs.YtdgphoemjeakaaaGreatDoor.De
open Go.RowKit K P U R Me W Rg
set_option maxRecDepth 100000
theorem keepN {bu ini li rd : Int} {d g m h : Nat} {w0 : World} {S : Nat → Prop} {B : Nat} {b0 b1 : List Bk} {newest : Int} {l : List Dl.Wish} {hlast since most last : Int} {w w' : World} (x : Hid (Nx bu ini li rd d g m h w0 S B b0 b1 newest l hlast since most last w) ∧ rowOf w d 0 20 = some (.agg (ca bu ini li rd))) (c : Chg No w w') :
    Hid (Nx bu ini li rd d g m h w0 S B b0 b1 newest l hlast since most last w') ∧ rowOf w' d 0 20 = some (.agg (ca bu ini li rd)) := ⟨x.1.out.no c, row_dc (x.1.out.no c).blk⟩
theorem next_end (bu li : Int) (b0 b1 : List Bk) (l : List Dl.Wish) (since most now ready : Int) : ∀ n1, (if 0 ≤ (nextMode since most now (over (wantOf (meanB 6 now b1)) ready)).1 then max (limit (wantOf (meanB 60 now b0)) ready) (limit (wantOf (meanB 6 now b1)) ready) else limit (wantOf (meanB 60 now b0)) ready) = n1 →
    nextD bu li b0 b1 l since most now ready = { stable := meanB 60 now b0, quick := meanB 6 now b1, want := max (min (keep (nextMode since most now (over (wantOf (meanB 6 now b1)) ready)).1 (nextMode since most now (over (wantOf (meanB 6 now b1)) ready)).2 (Dl.mostD now (G.kept (Dl.far now) l ++ [(now, n1)]))).2 100) 0, panic := decide (0 ≤ (nextMode since most now (over (wantOf (meanB 6 now b1)) ready)).1), excess := excess bu li ready (meanB 6 now b1), l := G.kept (Dl.far now) l ++ [(now, n1)], since := (nextMode since most now (over (wantOf (meanB 6 now b1)) ready)).1, most := (keep (nextMode since most now (over (wantOf (meanB 6 now b1)) ready)).1 (nextMode since most now (over (wantOf (meanB 6 now b1)) ready)).2 (Dl.mostD now (G.kept (Dl.far now) l ++ [(now, n1)]))).1 } := by
  rintro n1 rfl
  rfl
theorem limit_in (m ready : Int) (m0 : 0 ≤ m) (r0 : 0 ≤ ready) (r1 : ready ≤ 100) : 0 ≤ limit (wantOf m) ready ∧ limit (wantOf m) ready ≤ 1000 := by
  have := (up_bd (a := m) (b := 7000) m0 (by omega)).1
  unfold limit wantOf
  omega
theorem wl_ok (l : List Dl.Wish) (now nn : Int) (hln : l.length + 1 ≤ 1099511627776) (hat : ∀ x, x ∈ l → (0 ≤ x.1 ∧ x.1 ≤ now) ∧ (0 ≤ x.2 ∧ x.2 ≤ 1000000)) (n0 : 0 ≤ now) (n10 : 0 ≤ nn) (n11 : nn ≤ 1000000) : (G.kept (Dl.far now) l ++ [(now, nn)]).length ≤ 1099511627776 ∧ ∀ x, x ∈ G.kept (Dl.far now) l ++ [(now, nn)] → (0 ≤ x.1 ∧ x.1 ≤ now) ∧ (0 ≤ x.2 ∧ x.2 ≤ 1000000) := by
  have hlen : (G.kept (Dl.far now) l).length ≤ l.length := List.length_filter_le _ _
  refine ⟨by simp; omega, fun x hx => ?_⟩
  rcases List.mem_append.1 hx with hx | hx
  · exact hat x (List.mem_filter.1 hx).1
  · rw [List.mem_singleton.1 hx]
    exact ⟨⟨n0, Int.le_refl _⟩, n10, n11⟩
theorem keepZ {bu ini li rd : Int} {d g m h : Nat} {w0 : World} {S : Nat → Prop} {B : Nat} {b0 b1 : List Bk} {newest : Int} {l : List Dl.Wish} {hlast since most last : Int} {w : World} (x : Nx bu ini li rd d g m h w0 S B b0 b1 newest l hlast since most last w) :
    Hid (Nx bu ini li rd d g m h w0 S B b0 b1 newest l hlast since most last w) ∧ rowOf w d 0 20 = some (.agg (ca bu ini li rd)) ∧ w.cell? ⟨d, 8, none⟩ = some (.int .i64 0) := ⟨x, row_dc x.blk, by rw [x.blk.cell]; rfl⟩
theorem keepZ2 {bu ini li rd : Int} {d g m h : Nat} {w0 : World} {S : Nat → Prop} {B : Nat} {b0 b1 : List Bk} {newest : Int} {l : List Dl.Wish} {hlast since most last : Int} {w w' : World} (x : Hid (Nx bu ini li rd d g m h w0 S B b0 b1 newest l hlast since most last w) ∧ rowOf w d 0 20 = some (.agg (ca bu ini li rd)) ∧ w.cell? ⟨d, 8, none⟩ = some (.int .i64 0)) (c : Chg No w w') :
    Hid (Nx bu ini li rd d g m h w0 S B b0 b1 newest l hlast since most last w') ∧ rowOf w' d 0 20 = some (.agg (ca bu ini li rd)) ∧ w'.cell? ⟨d, 8, none⟩ = some (.int .i64 0) := keepZ (x.1.out.no c)
def NxB (bu ini li rd : Int) (d g m h : Nat) (w0 : World) (S : Nat → Prop) (B : Nat) (cs : Array Value) (b0 b1 : List Bk) (newest : Int) (l : List Dl.Wish) (hlast since most last : Int) (w : World) : Prop :=
  ∃ A : Nat → Prop, D2 bu ini li rd d g m h b0 b1 newest l hlast since most last w A ∧ ¬ A B ∧ Blk w B cs 63 ∧ (∀ k, A k → S k ∨ w0.heap.size ≤ k) ∧ Chg S w0 w
section
variable {bu ini li rd : Int} {d g m h : Nat} {w0 : World} {S : Nat → Prop} {B : Nat} {cs : Array Value} {b0 b1 : List Bk} {newest : Int} {l : List Dl.Wish} {hlast since most last : Int} {w w' : World}
theorem NxB.of (x : Nx bu ini li rd d g m h w0 S B b0 b1 newest l hlast since most last w) : NxB bu ini li rd d g m h w0 S B zz b0 b1 newest l hlast since most last w := x
theorem NxB.blk (x : NxB bu ini li rd d g m h w0 S B cs b0 b1 newest l hlast since most last w) : Blk w d (dc bu ini li rd g since most last) 94 := x.choose_spec.1.blk
theorem NxB.c21 (x : NxB bu ini li rd d g m h w0 S B cs b0 b1 newest l hlast since most last w) : w.cell? ⟨d, 21, none⟩ = some (.int .i64 since) := by
  rw [x.blk.cell]; rfl
theorem NxB.c22 (x : NxB bu ini li rd d g m h w0 S B cs b0 b1 newest l hlast since most last w) : w.cell? ⟨d, 22, none⟩ = some (.int .i64 most) := by
  rw [x.blk.cell]; rfl
theorem NxB.rc (x : NxB bu ini li rd d g m h w0 S B cs b0 b1 newest l hlast since most last w) (j : Nat) : w.cell? ⟨B, j, none⟩ = cs[j]? := x.choose_spec.2.2.1.cell j
theorem NxB.rf (x : NxB bu ini li rd d g m h w0 S B cs b0 b1 newest l hlast since most last w) (j : Nat) : w.frozen? ⟨B, j, none⟩ = false := x.choose_spec.2.2.1.free j
theorem NxB.no (x : NxB bu ini li rd d g m h w0 S B cs b0 b1 newest l hlast since most last w) (c : Chg No w w') : NxB bu ini li rd d g m h w0 S B cs b0 b1 newest l hlast since most last w' := by
  obtain ⟨A, h1, h2, h3, h4, h5⟩ := x
  exact ⟨A, D2.good.kept h1 c, h2, h3.kept c, h4, h5.trans c.of_no⟩
theorem NxB.rset (x : NxB bu ini li rd d g m h w0 S B cs b0 b1 newest l hlast since most last w) (hB : w0.heap.size ≤ B) (j : Nat) (v : Value) : NxB bu ini li rd d g m h w0 S B (cs.setIfInBounds j v) b0 b1 newest l hlast since most last (w.setCell ⟨B, j, none⟩ v) := by
  obtain ⟨A, h1, h2, h3, h4, h5⟩ := x
  have c1 : Chg (fun k => k = B) w (w.setCell ⟨B, j, none⟩ v) := (Chg.refl (fun k => k = B) w).set (fun _ => rfl) v
  exact ⟨A, D2.good.chg h1 c1 (fun k ha hk => h2 (hk ▸ ha)), h2, h3.set j v, h4, h5.set (fun hb => absurd hb (by show ¬ B < _; omega)) v⟩
theorem NxB.done (x : NxB bu ini li rd d g m h w0 S B cs b0 b1 newest l hlast since most last w) : D2 bu ini li rd d g m h b0 b1 newest l hlast since most last w (K.nx S w0 w) ∧ Chg S w0 w := by
  obtain ⟨A, h1, h2, h3, h4, h5⟩ := x
  exact ⟨D2.wide.mono h1 (fun k hk => ⟨h4 k hk, D2.good.bd h1 k hk⟩) fun _ hk => hk.2, h5⟩
end
theorem r8_at {ops : Array Oper} (ho : ops = R_r8) (bu ini li rd : Int) (d g : Nat) (since most last now ready b : Int) (X : Int → Int → World → Prop) (hX : Xo bu ini li rd d g last X) (HV : Hid (∀ (want ready : Int) (w : World), Calls Tryz.prog 97 #[.agg (ca bu ini li rd), .int .i64 want, .int .i64 ready] w fun e w' => e = .returned (.bool (over want ready)) ∧ Chg No w w'))
    (HM : Hid (∀ (since most now : Int) (over : Bool) (w : World), 0 ≤ now → now ≤ 1099511627776 → -1 ≤ since → since ≤ 1099511627776 → Calls Tryz.prog 96 #[.agg (ca bu ini li rd), .agg #[.int .i64 since, .int .i64 most], .int .i64 now, .bool over] w fun e w' => e = .returned (.agg #[.int .i64 (nextMode since most now over).1, .int .i64 (nextMode since most now over).2]) ∧ Chg No w w'))
    (t00 : 0 ≤ now) (t01 : now ≤ 1099511627776) (s0 : -1 ≤ since) (s1 : since ≤ 1099511627776) (t0 : Array Value) (hz : t0.size = 151) (ht0 : t0[0]? = some (.pointer (some ⟨d, 0, none⟩))) (ht1 : t0[1]? = some (.int .i64 now)) (ht2 : t0[2]? = some (.int .i64 ready)) (ht11 : t0[11]? = some (.int .i64 b)) {id : Nat} {Q : Exit → Act → World → Prop} {w : World} (start : X since most w.drew)
    (fin : ∀ w', X (nextMode since most now (over b ready)).1 (nextMode since most now (over b ready)).2 w' → Q .normal ⟨puts (lay_r8 bu ini li rd d since most now ready b) t0, []⟩ w') : (Code.region id ops true).wp Tryz.prog Q ⟨t0, []⟩ w := by
  subst ho
  exact r8_wp bu ini li rd d g since most last now ready b X hX HV HM t00 t01 s0 s1 t0 hz ht0 ht1 ht2 ht11 start fun w' h => fin w' h
set_option maxHeartbeats 8000000 in
theorem next_any (hm : Said.may) (bu ini li rd : Int) (ok : P.Ok bu ini li rd) (d : Nat) (b0 b1 : List Bk) (newest : Int) (l : List Dl.Wish) (hlast since most last now ready : Int) (w : World) (S : Nat → Prop) (x : Decider bu ini li rd d b0 b1 newest l hlast since most last w S) (f0 : Me.Fine newest b0) (f1 : Me.Fine newest b1)
    (n0 : 0 ≤ now) (n1 : now ≤ 1099511627776) (hn : newest ≤ now) (hl : last ≤ now) (r0 : 0 ≤ ready) (r1 : ready ≤ 100) (s0 : -1 ≤ since) (s1 : since ≤ now) (h0 : 0 ≤ hlast) (h1 : hlast ≤ now) (hln : l.length + 1 ≤ 1099511627776) (hat : ∀ x, x ∈ l → (0 ≤ x.1 ∧ x.1 ≤ now) ∧ (0 ≤ x.2 ∧ x.2 ≤ 1000000)) :
    Calls Tryz.prog 63 #[.pointer (some ⟨d, 0, none⟩), .int .i64 now, .int .i64 ready] w fun e w' => e = .returned (.tuple #[.agg #[.int .i64 now, .int .i64 (nextD bu li b0 b1 l since most now ready).stable, .int .i64 (nextD bu li b0 b1 l since most now ready).quick, .int .i64 (nextD bu li b0 b1 l since most now ready).want, .bool (nextD bu li b0 b1 l since most now ready).panic, .int .i64 (nextD bu li b0 b1 l since most now ready).excess], .int .i64 0]) ∧
      Decider bu ini li rd d b0 b1 newest (nextD bu li b0 b1 l since most now ready).l now (nextD bu li b0 b1 l since most now ready).since (nextD bu li b0 b1 l since most now ready).most now w' (K.nx S w w') ∧ Chg S w w' := by
  obtain ⟨g, m, hq, x⟩ := x
  have k1 : decide (now < last) = false := decide_eq_false (by omega)
  have k2 : decide (1099511627776 < now) = false := decide_eq_false (by omega)
  have k3 : decide (ready < 0) = false := decide_eq_false (by omega)
  have k4 : decide (100 < ready) = false := decide_eq_false (by omega)
  have c23 : w.cell? ⟨d, 23, none⟩ = some (.int .i64 last) := by rw [x.blk.cell]; rfl
  have f23 := x.blk.free 23
  have hd := x.blk.lt
  have H := Lib.hid (Nx.start (x := x) now)
  have HO := Lib.hid ok
  have HM := Lib.hid hm
  have HA := Lib.hid hat
  have HF0 := Lib.hid f0
  have HF1 := Lib.hid f1
  clear x ok hm hat f0 f1
  have HW := Lib.hid (fun want ready w => want_over HM.out bu ini li rd HO.out want ready w)
  have HN := Lib.hid (fun since most now over w a1 a2 a3 a4 => next_mode HM.out bu ini li rd HO.out since most now over w a1 a2 a3 a4)
  have HL := Lib.hid (fun want w => rate_limit HM.out bu ini li rd HO.out want ready w r0 (by omega))
  obtain ⟨mB0, mB1⟩ := meanB_bd (n := 60) (t := now) HF0.out
  obtain ⟨qB0, qB1⟩ := meanB_bd (n := 6) (t := now) HF1.out
  have HX := Lib.hid (fun w => excess_any HM.out bu ini li rd HO.out ready (meanB 6 now b1) w r0 (by omega) qB0 qB1)
  have HD := Lib.hid (next_end bu li b0 b1 l since most now ready)
  go_enter Tryz.func63, Tryz.ntmps63
  go_wp2_with fail
  generalize hw1 : (w.setCell ⟨d, 23, none⟩ (Value.int IntKind.i64 now)).alloc (Obj.cells #[.int .i64 0, .int .i64 0, .int .i64 0, .int .i64 0, .bool false, .int .i64 0] 63) = w1
  have H1 : Hid (Nx bu ini li rd d g m hq w S w.heap.size b0 b1 newest l hlast since most now w1) := by rw [← hw1]; exact H.out
  clear hw1 H c23 f23
  have hBB2 : w.heap.size ≤ w.heap.size := Nat.le_refl _
  obtain ⟨B, hBB⟩ : ∃ B, w.heap.size = B := ⟨_, rfl⟩
  rw [hBB] at H1 hd ⊢
  replace hBB2 : w.heap.size ≤ B := by omega
  refine (metric_any bu ini li rd d g m hq since most now w1 H1.out.blk H1.out.gblk).mono ?_
  rintro e w2 ⟨rfl, hc2⟩
  have H2 := Lib.hid (H1.out.no hc2)
  clear H1 hc2
  go_wp2_with fail
  obtain ⟨A, hmet, back⟩ := H2.out.met
  refine (Me.means_m bu ini li rd m b0 b1 newest now w2 A hmet HF0.out HF1.out hn n0 n1).mono ?_
  rintro e w3 ⟨rfl, hm3, hc3⟩
  have H3 := Lib.hid (back _ _ _ w3 hm3 hc3)
  clear H2 hmet back hm3 hc3
  generalize meanB 60 now b0 = st at *
  generalize meanB 6 now b1 = qu at *
  have HO1 := Lib.hid (fun m w (m0 : 0 ≤ m) (m1 : m ≤ 1152921504606846976) => want_of HM.out bu ini li rd HO.out m w m0 m1)
  go_wp2_with fail
  have hS : Hid (Nx bu ini li rd d g m hq w S B b0 b1 newest l hlast since most now w3.drew) ∧ rowOf w3.drew d 0 20 = some (.agg (ca bu ini li rd)) := ⟨H3.out.no (Chg.refl No _).drew, row_dc (H3.out.no (Chg.refl No _).drew).blk⟩
  go_region_held3 (fun w' => Hid (Nx bu ini li rd d g m hq w S B b0 b1 newest l hlast since most now w') ∧ rowOf w' d 0 20 = some (.agg (ca bu ini li rd))) (first | exact hS | assumption | exact keepN (by assumption) hc) (first | (go_at_call 95; refine (HO1.out _ _ (by assumption) (by assumption)).mono ?_; rintro e w4 ⟨rfl, hc⟩))
  rename_i hHeld
  have H4 := Lib.hid (keepN hHeld (Chg.refl No _)).1.out
  clear hHeld hS hc H3
  rename_i hc; clear hc
  go_wp2_with fail
  refine r8_at (by kernel_rfl) bu ini li rd d g since most now now ready (wantOf qu) (fun s m' w' => Nx bu ini li rd d g m hq w S B b0 b1 newest l hlast s m' now w') ⟨fun _ _ _ _ x c => x.no c, fun _ _ s' m' _ x => (x.cell 21 (.int .i64 s') s' _ now (dc_set21 ..)).cell 22 (.int .i64 m') s' m' now (dc_set22 ..), fun _ _ _ x => x.blk⟩ HW HN n0 n1 s0 (by omega) _ rfl rfl rfl rfl rfl (H4.out.no (Chg.refl No _).drew) fun w5 h5 => ?_
  have H5 := Lib.hid h5
  clear h5 H4
  simp only [lay_r8, puts, List.setIfInBounds_toArray, List.set_cons_succ, List.set_cons_zero]
  have hr5 := row_dc H5.out.blk
  have e21 := H5.out.c21
  have e22 := H5.out.c22
  generalize hmds : (nextMode since most now (over (wantOf qu) ready)).1 = mds at *
  generalize hmdm : (nextMode since most now (over (wantOf qu) ready)).2 = mdm at *
  clear hmds hmdm
  obtain ⟨a0, a1⟩ := limit_in st ready mB0 r0 r1
  obtain ⟨a2, a3⟩ := limit_in qu ready qB0 r0 r1
  generalize hN0 : limit (wantOf st) ready = N0 at *
  generalize hQ0 : limit (wantOf qu) ready = Q0 at *
  have HN0 := Lib.hid hN0
  have HQ0 := Lib.hid hQ0
  have HLN : Hid (∀ (w : World), Calls Tryz.prog 98 #[.agg (ca bu ini li rd), .int .i64 (wantOf st), .int .i64 ready] w fun e w' => e = .returned (.int .i64 N0) ∧ Chg No w w') := by
    have := HL.out (wantOf st)
    rwa [hN0] at this
  have HLQ : Hid (∀ (w : World), Calls Tryz.prog 98 #[.agg (ca bu ini li rd), .int .i64 (wantOf qu), .int .i64 ready] w fun e w' => e = .returned (.int .i64 Q0) ∧ Chg No w w') := by
    have := HL.out (wantOf qu)
    rwa [hQ0] at this
  clear hN0 hQ0 HL
  go_wp2_with fail
  refine (HLN.out _).mono ?_
  rintro e w6 ⟨rfl, hc6⟩
  have H6 := Lib.hid (H5.out.no hc6)
  have hr6 := row_dc H6.out.blk
  have e61 := H6.out.c21
  have e62 := H6.out.c22
  clear hr5 e21 e22 H5 hc6
  go_wp2_with fail
  refine (is_any _ _ _).mono ?_
  rintro e w7 ⟨rfl, hc7⟩
  have H7 := Lib.hid (H6.out.no hc7)
  have hr7 := row_dc H7.out.blk
  have e71 := H7.out.c21
  have e72 := H7.out.c22
  clear hr6 e61 e62 H6 hc7
  obtain ⟨nn, hn1⟩ : ∃ nn, (if 0 ≤ mds then max N0 Q0 else N0) = nn := ⟨_, rfl⟩
  have HD2 := Lib.hid (HD.out nn hn1)
  have n10 : 0 ≤ nn := by rw [← hn1]; split <;> omega
  have n11 : nn ≤ 1000 := by rw [← hn1]; split <;> omega
  by_cases hs : 0 ≤ mds
  · rw [if_pos hs] at hn1
    have ks : decide (0 ≤ mds) = true := decide_eq_true hs
    rw [ks]
    go_wp2_with fail
    refine (HLQ.out _).mono ?_
    rintro e w8 ⟨rfl, hc8⟩
    have H8 := Lib.hid (H7.out.no hc8)
    clear H7 hr7 e71 e72 hc8
    by_cases hmq : N0 < Q0
    · obtain rfl : nn = Q0 := by omega
      go_wp2_with fail
      refine (holds_any bu ini li rd d g m hq mds mdm now w8 H8.out.blk H8.out.gblk).mono ?_
      rintro e w9 ⟨rfl, hc9⟩
      have H9 := Lib.hid (H8.out.no hc9)
      clear H8 hc9
      go_wp2_with fail
      obtain ⟨A, hdel, back⟩ := H9.out.del
      refine (Dl.put_any w9 A hq l hlast now nn hdel hln (fun x hx => ⟨(HA.out x hx).1.1, by have := (HA.out x hx).1.2; omega⟩) h0 h1 (by omega) n10 (by omega)).mono ?_
      rintro e w10 ⟨rfl, hd10, hc10⟩
      have H10 := Lib.hid (back _ _ w10 hd10 hc10)
      clear H9 hdel back hd10 hc10
      generalize hl2 : G.kept (Dl.far now) l ++ [(now, nn)] = l2 at *
      have HL2 : Hid (l2.length ≤ 1099511627776 ∧ ∀ x, x ∈ l2 → (0 ≤ x.1 ∧ x.1 ≤ now) ∧ (0 ≤ x.2 ∧ x.2 ≤ 1000000)) := by rw [← hl2]; exact wl_ok l now nn hln HA.out n0 n10 (by omega)
      clear hl2
      generalize hkm : (keep mds mdm (Dl.mostD now l2)).1 = km at *
      generalize hkn : (keep mds mdm (Dl.mostD now l2)).2 = kn at *
      have HK : Hid (∀ w, Calls Tryz.prog 101 #[.agg #[.int .i64 mds, .int .i64 mdm], .int .i64 (Dl.mostD now l2)] w fun e w' => e = .returned (.tuple #[.agg #[.int .i64 mds, .int .i64 km], .int .i64 kn]) ∧ Chg No w w') := fun w => by have := keep_any mds mdm (Dl.mostD now l2) w; rwa [hkm, hkn] at this
      have kn0 : 0 ≤ kn := by
        have h5 := Dl.mostD_bd now l2 fun x hx => (HL2.out.2 x hx).2
        rw [← hkn]
        unfold keep
        split
        all_goals first | exact h5.1 | (show 0 ≤ max mdm (Dl.mostD now l2); omega)
      clear hkm hkn
      go_wp2_with fail
      refine r13_at (by kernel_rfl) d hq now mds mdm km (Dl.mostD now l2) kn (fun _ b w' => Nx bu ini li rd d g m hq w S B b0 b1 newest l2 now mds (cond b km mdm) now w') (fun _ _ x => ⟨x.c21, x.c22⟩) (fun _ w' x => (holds_any bu ini li rd d g m hq mds mdm now w' x.blk x.gblk).mono fun e w'' ⟨h1, h2⟩ => ⟨h1, x.no h2⟩) (fun _ w' x => by
        obtain ⟨A, hd, _⟩ := x.del
        exact (Dl.most_any w' A hq l2 now now hd HL2.out.1 HL2.out.2 n0 n1).mono fun e w'' ⟨h1, h2⟩ => ⟨h1, x.no h2⟩) (fun _ w' x => (HK.out w').mono fun e w'' ⟨h1, h2⟩ => ⟨h1, x.no h2⟩) (fun _ w' x => ⟨_, _, x.c21, x.c22, x.blk.free 21, x.blk.free 22, (x.cell 21 (.int .i64 mds) mds _ now (dc_set21 ..)).cell 22 (.int .i64 km) mds km now (dc_set22 ..)⟩) _ rfl rfl rfl () (H10.out.no (Chg.refl No _).drew) fun _ w11 h11 => ?_
      have H11 := Lib.hid h11
      clear h11 H10
      simp only [lay_r13, puts, List.setIfInBounds_toArray, List.set_cons_succ, List.set_cons_zero]
      by_cases h100 : 100 < kn
      · go_wp2_with fail
        have hS : Hid (Nx bu ini li rd d g m hq w S B b0 b1 newest l2 now mds km now w11.drew) ∧ rowOf w11.drew d 0 20 = some (.agg (ca bu ini li rd)) ∧ w11.drew.cell? ⟨d, 8, none⟩ = some (.int .i64 0) := keepZ (H11.out.no (Chg.refl No _).drew)
        go_region_held3 (fun w' => Hid (Nx bu ini li rd d g m hq w S B b0 b1 newest l2 now mds km now w') ∧ rowOf w' d 0 20 = some (.agg (ca bu ini li rd)) ∧ w'.cell? ⟨d, 8, none⟩ = some (.int .i64 0)) (first | exact hS | assumption | exact keepZ2 (by assumption) hc) (first | (go_at_call 66; refine (most_any bu ini li rd _).mono ?_; rintro e w12 ⟨rfl, hc⟩))
        rename_i hHeld
        have H12 := hHeld.1
        clear hHeld hS hc H11
        go_wp2_with fail
        refine r15_at (by kernel_rfl) bu ini li rd d B now ready st qu 100 mds km (decide (0 ≤ mds)) (excess bu li ready qu) (fun _ b w' => NxB bu ini li rd d g m hq w S B (cond b #[.int .i64 now, .int .i64 st, .int .i64 qu, .int .i64 100, .bool (decide (0 ≤ mds)), .int .i64 (excess bu li ready qu)] zz) b0 b1 newest l2 now mds km now w') (fun _ _ x => ⟨x.c21, x.c22⟩) (fun _ _ x => row_dc x.blk) (fun _ w' x => (is_any mds km w').mono fun e w'' ⟨h1, h2⟩ => ⟨h1, x.no h2⟩) (fun _ w' x => (HX.out w').mono fun e w'' ⟨h1, h2⟩ => ⟨h1, x.no h2⟩) (fun _ w' x => ⟨_, _, _, _, _, _, x.rc 0, x.rc 1, x.rc 2, x.rc 3, x.rc 4, x.rc 5, x.rf 0, x.rf 1, x.rf 2, x.rf 3, x.rf 4, x.rf 5, ((((((x.rset hBB2 0 _).rset hBB2 1 _).rset hBB2 2 _).rset hBB2 3 _).rset hBB2 4 _).rset hBB2 5 _)⟩) _ rfl rfl rfl rfl rfl rfl rfl rfl () (NxB.of (H12.out.no (Chg.refl No _).drew)) fun _ w13 h13 => ?_
        have H13 := Lib.hid h13
        clear h13 H12
        have r0 : w13.cell? ⟨B, 0, none⟩ = some (.int .i64 now) := H13.out.rc 0
        have r1 : w13.cell? ⟨B, 1, none⟩ = some (.int .i64 st) := H13.out.rc 1
        have r2 : w13.cell? ⟨B, 2, none⟩ = some (.int .i64 qu) := H13.out.rc 2
        have r3 : w13.cell? ⟨B, 3, none⟩ = some (.int .i64 100) := H13.out.rc 3
        have r4 : w13.cell? ⟨B, 4, none⟩ = some (.bool (decide (0 ≤ mds))) := H13.out.rc 4
        have r5 : w13.cell? ⟨B, 5, none⟩ = some (.int .i64 (excess bu li ready qu)) := H13.out.rc 5
        simp only [lay_r15, puts, List.setIfInBounds_toArray, List.set_cons_succ, List.set_cons_zero]
        go_wp2_with fail
        try simp only [Exit.inBlock, Exit.then]
        refine bodyPost_ret (by simp [results, Tryz.results63, go_sem, r0, r1, r2, r3, r4, r5]; rfl) rfl ?_
        obtain ⟨x1, x2⟩ := H13.out.done
        rw [HD2.out]
        exact ⟨by rw [show max (min kn 100) 0 = 100 by omega], ⟨g, m, hq, x1⟩, x2⟩
      · go_wp2_with fail
        have hS : Hid (Nx bu ini li rd d g m hq w S B b0 b1 newest l2 now mds km now w11.drew) ∧ rowOf w11.drew d 0 20 = some (.agg (ca bu ini li rd)) ∧ w11.drew.cell? ⟨d, 8, none⟩ = some (.int .i64 0) := keepZ (H11.out.no (Chg.refl No _).drew)
        go_region_held3 (fun w' => Hid (Nx bu ini li rd d g m hq w S B b0 b1 newest l2 now mds km now w') ∧ rowOf w' d 0 20 = some (.agg (ca bu ini li rd)) ∧ w'.cell? ⟨d, 8, none⟩ = some (.int .i64 0)) (first | exact hS | assumption | exact keepZ2 (by assumption) hc) (first | (go_at_call 66; refine (most_any bu ini li rd _).mono ?_; rintro e w12 ⟨rfl, hc⟩))
        rename_i hHeld
        have H12 := hHeld.1
        clear hHeld hS hc H11
        go_wp2_with fail
        refine r15_at (by kernel_rfl) bu ini li rd d B now ready st qu kn mds km (decide (0 ≤ mds)) (excess bu li ready qu) (fun _ b w' => NxB bu ini li rd d g m hq w S B (cond b #[.int .i64 now, .int .i64 st, .int .i64 qu, .int .i64 kn, .bool (decide (0 ≤ mds)), .int .i64 (excess bu li ready qu)] zz) b0 b1 newest l2 now mds km now w') (fun _ _ x => ⟨x.c21, x.c22⟩) (fun _ _ x => row_dc x.blk) (fun _ w' x => (is_any mds km w').mono fun e w'' ⟨h1, h2⟩ => ⟨h1, x.no h2⟩) (fun _ w' x => (HX.out w').mono fun e w'' ⟨h1, h2⟩ => ⟨h1, x.no h2⟩) (fun _ w' x => ⟨_, _, _, _, _, _, x.rc 0, x.rc 1, x.rc 2, x.rc 3, x.rc 4, x.rc 5, x.rf 0, x.rf 1, x.rf 2, x.rf 3, x.rf 4, x.rf 5, ((((((x.rset hBB2 0 _).rset hBB2 1 _).rset hBB2 2 _).rset hBB2 3 _).rset hBB2 4 _).rset hBB2 5 _)⟩) _ rfl rfl rfl rfl rfl rfl rfl rfl () (NxB.of (H12.out.no (Chg.refl No _).drew)) fun _ w13 h13 => ?_
        have H13 := Lib.hid h13
        clear h13 H12
        have r0 : w13.cell? ⟨B, 0, none⟩ = some (.int .i64 now) := H13.out.rc 0
        have r1 : w13.cell? ⟨B, 1, none⟩ = some (.int .i64 st) := H13.out.rc 1
        have r2 : w13.cell? ⟨B, 2, none⟩ = some (.int .i64 qu) := H13.out.rc 2
        have r3 : w13.cell? ⟨B, 3, none⟩ = some (.int .i64 kn) := H13.out.rc 3
        have r4 : w13.cell? ⟨B, 4, none⟩ = some (.bool (decide (0 ≤ mds))) := H13.out.rc 4
        have r5 : w13.cell? ⟨B, 5, none⟩ = some (.int .i64 (excess bu li ready qu)) := H13.out.rc 5
        simp only [lay_r15, puts, List.setIfInBounds_toArray, List.set_cons_succ, List.set_cons_zero]
        go_wp2_with fail
        try simp only [Exit.inBlock, Exit.then]
        refine bodyPost_ret (by simp [results, Tryz.results63, go_sem, r0, r1, r2, r3, r4, r5]; rfl) rfl ?_
        obtain ⟨x1, x2⟩ := H13.out.done
        rw [HD2.out]
        exact ⟨by rw [show max (min kn 100) 0 = kn by omega], ⟨g, m, hq, x1⟩, x2⟩
    · obtain rfl : nn = N0 := by omega
      go_wp2_with fail
      refine (holds_any bu ini li rd d g m hq mds mdm now w8 H8.out.blk H8.out.gblk).mono ?_
      rintro e w9 ⟨rfl, hc9⟩
      have H9 := Lib.hid (H8.out.no hc9)
      clear H8 hc9
      go_wp2_with fail
      obtain ⟨A, hdel, back⟩ := H9.out.del
      refine (Dl.put_any w9 A hq l hlast now nn hdel hln (fun x hx => ⟨(HA.out x hx).1.1, by have := (HA.out x hx).1.2; omega⟩) h0 h1 (by omega) n10 (by omega)).mono ?_
      rintro e w10 ⟨rfl, hd10, hc10⟩
      have H10 := Lib.hid (back _ _ w10 hd10 hc10)
      clear H9 hdel back hd10 hc10
      generalize hl2 : G.kept (Dl.far now) l ++ [(now, nn)] = l2 at *
      have HL2 : Hid (l2.length ≤ 1099511627776 ∧ ∀ x, x ∈ l2 → (0 ≤ x.1 ∧ x.1 ≤ now) ∧ (0 ≤ x.2 ∧ x.2 ≤ 1000000)) := by rw [← hl2]; exact wl_ok l now nn hln HA.out n0 n10 (by omega)
      clear hl2
      generalize hkm : (keep mds mdm (Dl.mostD now l2)).1 = km at *
      generalize hkn : (keep mds mdm (Dl.mostD now l2)).2 = kn at *
      have HK : Hid (∀ w, Calls Tryz.prog 101 #[.agg #[.int .i64 mds, .int .i64 mdm], .int .i64 (Dl.mostD now l2)] w fun e w' => e = .returned (.tuple #[.agg #[.int .i64 mds, .int .i64 km], .int .i64 kn]) ∧ Chg No w w') := fun w => by have := keep_any mds mdm (Dl.mostD now l2) w; rwa [hkm, hkn] at this
      have kn0 : 0 ≤ kn := by
        have h5 := Dl.mostD_bd now l2 fun x hx => (HL2.out.2 x hx).2
        rw [← hkn]
        unfold keep
        split
        all_goals first | exact h5.1 | (show 0 ≤ max mdm (Dl.mostD now l2); omega)
      clear hkm hkn
      go_wp2_with fail
      refine r13_at (by kernel_rfl) d hq now mds mdm km (Dl.mostD now l2) kn (fun _ b w' => Nx bu ini li rd d g m hq w S B b0 b1 newest l2 now mds (cond b km mdm) now w') (fun _ _ x => ⟨x.c21, x.c22⟩) (fun _ w' x => (holds_any bu ini li rd d g m hq mds mdm now w' x.blk x.gblk).mono fun e w'' ⟨h1, h2⟩ => ⟨h1, x.no h2⟩) (fun _ w' x => by
        obtain ⟨A, hd, _⟩ := x.del
        exact (Dl.most_any w' A hq l2 now now hd HL2.out.1 HL2.out.2 n0 n1).mono fun e w'' ⟨h1, h2⟩ => ⟨h1, x.no h2⟩) (fun _ w' x => (HK.out w').mono fun e w'' ⟨h1, h2⟩ => ⟨h1, x.no h2⟩) (fun _ w' x => ⟨_, _, x.c21, x.c22, x.blk.free 21, x.blk.free 22, (x.cell 21 (.int .i64 mds) mds _ now (dc_set21 ..)).cell 22 (.int .i64 km) mds km now (dc_set22 ..)⟩) _ rfl rfl rfl () (H10.out.no (Chg.refl No _).drew) fun _ w11 h11 => ?_
      have H11 := Lib.hid h11
      clear h11 H10
      simp only [lay_r13, puts, List.setIfInBounds_toArray, List.set_cons_succ, List.set_cons_zero]
      by_cases h100 : 100 < kn
      · go_wp2_with fail
        have hS : Hid (Nx bu ini li rd d g m hq w S B b0 b1 newest l2 now mds km now w11.drew) ∧ rowOf w11.drew d 0 20 = some (.agg (ca bu ini li rd)) ∧ w11.drew.cell? ⟨d, 8, none⟩ = some (.int .i64 0) := keepZ (H11.out.no (Chg.refl No _).drew)
        go_region_held3 (fun w' => Hid (Nx bu ini li rd d g m hq w S B b0 b1 newest l2 now mds km now w') ∧ rowOf w' d 0 20 = some (.agg (ca bu ini li rd)) ∧ w'.cell? ⟨d, 8, none⟩ = some (.int .i64 0)) (first | exact hS | assumption | exact keepZ2 (by assumption) hc) (first | (go_at_call 66; refine (most_any bu ini li rd _).mono ?_; rintro e w12 ⟨rfl, hc⟩))
        rename_i hHeld
        have H12 := hHeld.1
        clear hHeld hS hc H11
        go_wp2_with fail
        refine r15_at (by kernel_rfl) bu ini li rd d B now ready st qu 100 mds km (decide (0 ≤ mds)) (excess bu li ready qu) (fun _ b w' => NxB bu ini li rd d g m hq w S B (cond b #[.int .i64 now, .int .i64 st, .int .i64 qu, .int .i64 100, .bool (decide (0 ≤ mds)), .int .i64 (excess bu li ready qu)] zz) b0 b1 newest l2 now mds km now w') (fun _ _ x => ⟨x.c21, x.c22⟩) (fun _ _ x => row_dc x.blk) (fun _ w' x => (is_any mds km w').mono fun e w'' ⟨h1, h2⟩ => ⟨h1, x.no h2⟩) (fun _ w' x => (HX.out w').mono fun e w'' ⟨h1, h2⟩ => ⟨h1, x.no h2⟩) (fun _ w' x => ⟨_, _, _, _, _, _, x.rc 0, x.rc 1, x.rc 2, x.rc 3, x.rc 4, x.rc 5, x.rf 0, x.rf 1, x.rf 2, x.rf 3, x.rf 4, x.rf 5, ((((((x.rset hBB2 0 _).rset hBB2 1 _).rset hBB2 2 _).rset hBB2 3 _).rset hBB2 4 _).rset hBB2 5 _)⟩) _ rfl rfl rfl rfl rfl rfl rfl rfl () (NxB.of (H12.out.no (Chg.refl No _).drew)) fun _ w13 h13 => ?_
        have H13 := Lib.hid h13
        clear h13 H12
        have r0 : w13.cell? ⟨B, 0, none⟩ = some (.int .i64 now) := H13.out.rc 0
        have r1 : w13.cell? ⟨B, 1, none⟩ = some (.int .i64 st) := H13.out.rc 1
        have r2 : w13.cell? ⟨B, 2, none⟩ = some (.int .i64 qu) := H13.out.rc 2
        have r3 : w13.cell? ⟨B, 3, none⟩ = some (.int .i64 100) := H13.out.rc 3
        have r4 : w13.cell? ⟨B, 4, none⟩ = some (.bool (decide (0 ≤ mds))) := H13.out.rc 4
        have r5 : w13.cell? ⟨B, 5, none⟩ = some (.int .i64 (excess bu li ready qu)) := H13.out.rc 5
        simp only [lay_r15, puts, List.setIfInBounds_toArray, List.set_cons_succ, List.set_cons_zero]
        go_wp2_with fail
        try simp only [Exit.inBlock, Exit.then]
        refine bodyPost_ret (by simp [results, Tryz.results63, go_sem, r0, r1, r2, r3, r4, r5]; rfl) rfl ?_
        obtain ⟨x1, x2⟩ := H13.out.done
        rw [HD2.out]
        exact ⟨by rw [show max (min kn 100) 0 = 100 by omega], ⟨g, m, hq, x1⟩, x2⟩
      · go_wp2_with fail
        have hS : Hid (Nx bu ini li rd d g m hq w S B b0 b1 newest l2 now mds km now w11.drew) ∧ rowOf w11.drew d 0 20 = some (.agg (ca bu ini li rd)) ∧ w11.drew.cell? ⟨d, 8, none⟩ = some (.int .i64 0) := keepZ (H11.out.no (Chg.refl No _).drew)
        go_region_held3 (fun w' => Hid (Nx bu ini li rd d g m hq w S B b0 b1 newest l2 now mds km now w') ∧ rowOf w' d 0 20 = some (.agg (ca bu ini li rd)) ∧ w'.cell? ⟨d, 8, none⟩ = some (.int .i64 0)) (first | exact hS | assumption | exact keepZ2 (by assumption) hc) (first | (go_at_call 66; refine (most_any bu ini li rd _).mono ?_; rintro e w12 ⟨rfl, hc⟩))
        rename_i hHeld
        have H12 := hHeld.1
        clear hHeld hS hc H11
        go_wp2_with fail
        refine r15_at (by kernel_rfl) bu ini li rd d B now ready st qu kn mds km (decide (0 ≤ mds)) (excess bu li ready qu) (fun _ b w' => NxB bu ini li rd d g m hq w S B (cond b #[.int .i64 now, .int .i64 st, .int .i64 qu, .int .i64 kn, .bool (decide (0 ≤ mds)), .int .i64 (excess bu li ready qu)] zz) b0 b1 newest l2 now mds km now w') (fun _ _ x => ⟨x.c21, x.c22⟩) (fun _ _ x => row_dc x.blk) (fun _ w' x => (is_any mds km w').mono fun e w'' ⟨h1, h2⟩ => ⟨h1, x.no h2⟩) (fun _ w' x => (HX.out w').mono fun e w'' ⟨h1, h2⟩ => ⟨h1, x.no h2⟩) (fun _ w' x => ⟨_, _, _, _, _, _, x.rc 0, x.rc 1, x.rc 2, x.rc 3, x.rc 4, x.rc 5, x.rf 0, x.rf 1, x.rf 2, x.rf 3, x.rf 4, x.rf 5, ((((((x.rset hBB2 0 _).rset hBB2 1 _).rset hBB2 2 _).rset hBB2 3 _).rset hBB2 4 _).rset hBB2 5 _)⟩) _ rfl rfl rfl rfl rfl rfl rfl rfl () (NxB.of (H12.out.no (Chg.refl No _).drew)) fun _ w13 h13 => ?_
        have H13 := Lib.hid h13
        clear h13 H12
        have r0 : w13.cell? ⟨B, 0, none⟩ = some (.int .i64 now) := H13.out.rc 0
        have r1 : w13.cell? ⟨B, 1, none⟩ = some (.int .i64 st) := H13.out.rc 1
        have r2 : w13.cell? ⟨B, 2, none⟩ = some (.int .i64 qu) := H13.out.rc 2
        have r3 : w13.cell? ⟨B, 3, none⟩ = some (.int .i64 kn) := H13.out.rc 3
        have r4 : w13.cell? ⟨B, 4, none⟩ = some (.bool (decide (0 ≤ mds))) := H13.out.rc 4
        have r5 : w13.cell? ⟨B, 5, none⟩ = some (.int .i64 (excess bu li ready qu)) := H13.out.rc 5
        simp only [lay_r15, puts, List.setIfInBounds_toArray, List.set_cons_succ, List.set_cons_zero]
        go_wp2_with fail
        try simp only [Exit.inBlock, Exit.then]
        refine bodyPost_ret (by simp [results, Tryz.results63, go_sem, r0, r1, r2, r3, r4, r5]; rfl) rfl ?_
        obtain ⟨x1, x2⟩ := H13.out.done
        rw [HD2.out]
        exact ⟨by rw [show max (min kn 100) 0 = kn by omega], ⟨g, m, hq, x1⟩, x2⟩
  · rw [if_neg hs] at hn1
    obtain rfl : nn = N0 := hn1.symm
    have ks : decide (0 ≤ mds) = false := decide_eq_false hs
    rw [ks]
    have H8 := H7
    clear H7 hr7 e71 e72
    generalize w7 = w8 at *
    go_wp2_with fail
    refine (holds_any bu ini li rd d g m hq mds mdm now w8 H8.out.blk H8.out.gblk).mono ?_
    rintro e w9 ⟨rfl, hc9⟩
    have H9 := Lib.hid (H8.out.no hc9)
    clear H8 hc9
    go_wp2_with fail
    obtain ⟨A, hdel, back⟩ := H9.out.del
    refine (Dl.put_any w9 A hq l hlast now nn hdel hln (fun x hx => ⟨(HA.out x hx).1.1, by have := (HA.out x hx).1.2; omega⟩) h0 h1 (by omega) n10 (by omega)).mono ?_
    rintro e w10 ⟨rfl, hd10, hc10⟩
    have H10 := Lib.hid (back _ _ w10 hd10 hc10)
    clear H9 hdel back hd10 hc10
    generalize hl2 : G.kept (Dl.far now) l ++ [(now, nn)] = l2 at *
    have HL2 : Hid (l2.length ≤ 1099511627776 ∧ ∀ x, x ∈ l2 → (0 ≤ x.1 ∧ x.1 ≤ now) ∧ (0 ≤ x.2 ∧ x.2 ≤ 1000000)) := by rw [← hl2]; exact wl_ok l now nn hln HA.out n0 n10 (by omega)
    clear hl2
    generalize hkm : (keep mds mdm (Dl.mostD now l2)).1 = km at *
    generalize hkn : (keep mds mdm (Dl.mostD now l2)).2 = kn at *
    have HK : Hid (∀ w, Calls Tryz.prog 101 #[.agg #[.int .i64 mds, .int .i64 mdm], .int .i64 (Dl.mostD now l2)] w fun e w' => e = .returned (.tuple #[.agg #[.int .i64 mds, .int .i64 km], .int .i64 kn]) ∧ Chg No w w') := fun w => by have := keep_any mds mdm (Dl.mostD now l2) w; rwa [hkm, hkn] at this
    have kn0 : 0 ≤ kn := by
      have h5 := Dl.mostD_bd now l2 fun x hx => (HL2.out.2 x hx).2
      rw [← hkn]
      unfold keep
      split
      all_goals first | exact h5.1 | (show 0 ≤ max mdm (Dl.mostD now l2); omega)
    clear hkm hkn
    go_wp2_with fail
    refine r13_at (by kernel_rfl) d hq now mds mdm km (Dl.mostD now l2) kn (fun _ b w' => Nx bu ini li rd d g m hq w S B b0 b1 newest l2 now mds (cond b km mdm) now w') (fun _ _ x => ⟨x.c21, x.c22⟩) (fun _ w' x => (holds_any bu ini li rd d g m hq mds mdm now w' x.blk x.gblk).mono fun e w'' ⟨h1, h2⟩ => ⟨h1, x.no h2⟩) (fun _ w' x => by
      obtain ⟨A, hd, _⟩ := x.del
      exact (Dl.most_any w' A hq l2 now now hd HL2.out.1 HL2.out.2 n0 n1).mono fun e w'' ⟨h1, h2⟩ => ⟨h1, x.no h2⟩) (fun _ w' x => (HK.out w').mono fun e w'' ⟨h1, h2⟩ => ⟨h1, x.no h2⟩) (fun _ w' x => ⟨_, _, x.c21, x.c22, x.blk.free 21, x.blk.free 22, (x.cell 21 (.int .i64 mds) mds _ now (dc_set21 ..)).cell 22 (.int .i64 km) mds km now (dc_set22 ..)⟩) _ rfl rfl rfl () (H10.out.no (Chg.refl No _).drew) fun _ w11 h11 => ?_
    have H11 := Lib.hid h11
    clear h11 H10
    simp only [lay_r13, puts, List.setIfInBounds_toArray, List.set_cons_succ, List.set_cons_zero]
    by_cases h100 : 100 < kn
    · go_wp2_with fail
      have hS : Hid (Nx bu ini li rd d g m hq w S B b0 b1 newest l2 now mds km now w11.drew) ∧ rowOf w11.drew d 0 20 = some (.agg (ca bu ini li rd)) ∧ w11.drew.cell? ⟨d, 8, none⟩ = some (.int .i64 0) := keepZ (H11.out.no (Chg.refl No _).drew)
      go_region_held3 (fun w' => Hid (Nx bu ini li rd d g m hq w S B b0 b1 newest l2 now mds km now w') ∧ rowOf w' d 0 20 = some (.agg (ca bu ini li rd)) ∧ w'.cell? ⟨d, 8, none⟩ = some (.int .i64 0)) (first | exact hS | assumption | exact keepZ2 (by assumption) hc) (first | (go_at_call 66; refine (most_any bu ini li rd _).mono ?_; rintro e w12 ⟨rfl, hc⟩))
      rename_i hHeld
      have H12 := hHeld.1
      clear hHeld hS hc H11
      go_wp2_with fail
      refine r15_at (by kernel_rfl) bu ini li rd d B now ready st qu 100 mds km (decide (0 ≤ mds)) (excess bu li ready qu) (fun _ b w' => NxB bu ini li rd d g m hq w S B (cond b #[.int .i64 now, .int .i64 st, .int .i64 qu, .int .i64 100, .bool (decide (0 ≤ mds)), .int .i64 (excess bu li ready qu)] zz) b0 b1 newest l2 now mds km now w') (fun _ _ x => ⟨x.c21, x.c22⟩) (fun _ _ x => row_dc x.blk) (fun _ w' x => (is_any mds km w').mono fun e w'' ⟨h1, h2⟩ => ⟨h1, x.no h2⟩) (fun _ w' x => (HX.out w').mono fun e w'' ⟨h1, h2⟩ => ⟨h1, x.no h2⟩) (fun _ w' x => ⟨_, _, _, _, _, _, x.rc 0, x.rc 1, x.rc 2, x.rc 3, x.rc 4, x.rc 5, x.rf 0, x.rf 1, x.rf 2, x.rf 3, x.rf 4, x.rf 5, ((((((x.rset hBB2 0 _).rset hBB2 1 _).rset hBB2 2 _).rset hBB2 3 _).rset hBB2 4 _).rset hBB2 5 _)⟩) _ rfl rfl rfl rfl rfl rfl rfl rfl () (NxB.of (H12.out.no (Chg.refl No _).drew)) fun _ w13 h13 => ?_
      have H13 := Lib.hid h13
      clear h13 H12
      have r0 : w13.cell? ⟨B, 0, none⟩ = some (.int .i64 now) := H13.out.rc 0
      have r1 : w13.cell? ⟨B, 1, none⟩ = some (.int .i64 st) := H13.out.rc 1
      have r2 : w13.cell? ⟨B, 2, none⟩ = some (.int .i64 qu) := H13.out.rc 2
      have r3 : w13.cell? ⟨B, 3, none⟩ = some (.int .i64 100) := H13.out.rc 3
      have r4 : w13.cell? ⟨B, 4, none⟩ = some (.bool (decide (0 ≤ mds))) := H13.out.rc 4
      have r5 : w13.cell? ⟨B, 5, none⟩ = some (.int .i64 (excess bu li ready qu)) := H13.out.rc 5
      simp only [lay_r15, puts, List.setIfInBounds_toArray, List.set_cons_succ, List.set_cons_zero]
      go_wp2_with fail
      try simp only [Exit.inBlock, Exit.then]
      refine bodyPost_ret (by simp [results, Tryz.results63, go_sem, r0, r1, r2, r3, r4, r5]; rfl) rfl ?_
      obtain ⟨x1, x2⟩ := H13.out.done
      rw [HD2.out]
      exact ⟨by rw [show max (min kn 100) 0 = 100 by omega], ⟨g, m, hq, x1⟩, x2⟩
    · go_wp2_with fail
      have hS : Hid (Nx bu ini li rd d g m hq w S B b0 b1 newest l2 now mds km now w11.drew) ∧ rowOf w11.drew d 0 20 = some (.agg (ca bu ini li rd)) ∧ w11.drew.cell? ⟨d, 8, none⟩ = some (.int .i64 0) := keepZ (H11.out.no (Chg.refl No _).drew)
      go_region_held3 (fun w' => Hid (Nx bu ini li rd d g m hq w S B b0 b1 newest l2 now mds km now w') ∧ rowOf w' d 0 20 = some (.agg (ca bu ini li rd)) ∧ w'.cell? ⟨d, 8, none⟩ = some (.int .i64 0)) (first | exact hS | assumption | exact keepZ2 (by assumption) hc) (first | (go_at_call 66; refine (most_any bu ini li rd _).mono ?_; rintro e w12 ⟨rfl, hc⟩))
      rename_i hHeld
      have H12 := hHeld.1
      clear hHeld hS hc H11
      go_wp2_with fail
      refine r15_at (by kernel_rfl) bu ini li rd d B now ready st qu kn mds km (decide (0 ≤ mds)) (excess bu li ready qu) (fun _ b w' => NxB bu ini li rd d g m hq w S B (cond b #[.int .i64 now, .int .i64 st, .int .i64 qu, .int .i64 kn, .bool (decide (0 ≤ mds)), .int .i64 (excess bu li ready qu)] zz) b0 b1 newest l2 now mds km now w') (fun _ _ x => ⟨x.c21, x.c22⟩) (fun _ _ x => row_dc x.blk) (fun _ w' x => (is_any mds km w').mono fun e w'' ⟨h1, h2⟩ => ⟨h1, x.no h2⟩) (fun _ w' x => (HX.out w').mono fun e w'' ⟨h1, h2⟩ => ⟨h1, x.no h2⟩) (fun _ w' x => ⟨_, _, _, _, _, _, x.rc 0, x.rc 1, x.rc 2, x.rc 3, x.rc 4, x.rc 5, x.rf 0, x.rf 1, x.rf 2, x.rf 3, x.rf 4, x.rf 5, ((((((x.rset hBB2 0 _).rset hBB2 1 _).rset hBB2 2 _).rset hBB2 3 _).rset hBB2 4 _).rset hBB2 5 _)⟩) _ rfl rfl rfl rfl rfl rfl rfl rfl () (NxB.of (H12.out.no (Chg.refl No _).drew)) fun _ w13 h13 => ?_
      have H13 := Lib.hid h13
      clear h13 H12
      have r0 : w13.cell? ⟨B, 0, none⟩ = some (.int .i64 now) := H13.out.rc 0
      have r1 : w13.cell? ⟨B, 1, none⟩ = some (.int .i64 st) := H13.out.rc 1
      have r2 : w13.cell? ⟨B, 2, none⟩ = some (.int .i64 qu) := H13.out.rc 2
      have r3 : w13.cell? ⟨B, 3, none⟩ = some (.int .i64 kn) := H13.out.rc 3
      have r4 : w13.cell? ⟨B, 4, none⟩ = some (.bool (decide (0 ≤ mds))) := H13.out.rc 4
      have r5 : w13.cell? ⟨B, 5, none⟩ = some (.int .i64 (excess bu li ready qu)) := H13.out.rc 5
      simp only [lay_r15, puts, List.setIfInBounds_toArray, List.set_cons_succ, List.set_cons_zero]
      go_wp2_with fail
      try simp only [Exit.inBlock, Exit.then]
      refine bodyPost_ret (by simp [results, Tryz.results63, go_sem, r0, r1, r2, r3, r4, r5]; rfl) rfl ?_
      obtain ⟨x1, x2⟩ := H13.out.done
      rw [HD2.out]
      exact ⟨by rw [show max (min kn 100) 0 = kn by omega], ⟨g, m, hq, x1⟩, x2⟩
end Go.Proofs.YtdgphoemjeakaaaGreatDoor.De
