/- The whole service: New. The whole service: the settings that are given. The whole service: to look at it; New by one name. -/
import Derived.Test.YtdgphoemjeakaaaGreatDoorQ21
import Derived.Test.YtdgphoemjeakaaaGreatDoorQ16
import Derived.Deep.WholeRow
import Derived.Deep.MidRow
/-! The whole service: New. -/
namespace Go.Proofs.YtdgphoemjeakaaaGreatDoor.Y
open Go.Proofs.YtdgphoemjeakaaaGreatDoor.Rg
open Go.Proofs.YtdgphoemjeakaaaGreatDoor.Me
open Go.RowKit Go.Proofs.YtdgphoemjeakaaaGreatDoor Go.Proofs.YtdgphoemjeakaaaGreatDoor.K Go.Proofs.YtdgphoemjeakaaaGreatDoor.P Go.Proofs.YtdgphoemjeakaaaGreatDoor.U Go.Proofs.YtdgphoemjeakaaaGreatDoor.R
set_option maxRecDepth 100000

/-- Ahead of all. -/
def raw (ini : Int) : V.Sys := { pods := [], made := 0, q := [], ql := -9223372036854775808, b0 := [], b1 := [], nw := -1, wl := [], hl := 0, si := -1, mo := 0, dl := 0, rs := [], ld := ⟨0, 0, 0, 0, false, 0⟩, now := 0, want := ini, proxy := false, zs := -1, lost := 0 }
/-- Its cells. -/
def rawc (bu ini li rd : Int) (g : Nat) : Array Value := mw (ca bu ini li rd) [.int .i64 0, .slice (some ⟨g, 0, none⟩) 3 3, .slice none 0 0, .int .i64 0, .int .i64 0, .int .i64 0, .int .i64 0, .bool false, .int .i64 0, .int .i64 ini, .bool false, .int .i64 (-1), .int .i64 0, .slice none 0 0]
theorem rawc_eq (bu ini li rd : Int) (p g l q d : Nat) : rawc bu ini li rd g = sca ⟨bu, ini, li, rd, p, g, l, q, d⟩ (.slice none 0 0) (.slice none 0 0) (raw ini) := rfl
@[go_sem] theorem bld66 (bu ini li rd : Int) (g : Nat) (w : World) : bld 66 #[(0, .agg (ca bu ini li rd)), (2, .slice (some ⟨g, 0, none⟩) 3 3), (5, .int .i64 ini), (7, .agg #[.int .i64 (-1)])] w = .ok (.value (.agg (rawc bu ini li rd g))) w := by
  kernel_rfl
/-- All that is new, put together. -/
theorem raw_rep {bu ini li rd : Int} {w1 w : World} {l q d g p x y : Nat} (hl : A.Life w (fun k => k = l) l [] 0) (hq : B.Queue w (fun k => k = q) q [] 100 (-9223372036854775808)) (hd : De.Decider bu ini li rd d [] [] (-1) [] 0 (-1) 0 0 w (fun k => x ≤ k ∧ k < y)) (hg : Blk w g (pc l q d) 20) (hp : Blk w p (rawc bu ini li rd g) 66) (c : Chg No w1 w)
    (h1 : w1.heap.size ≤ l) (h2 : l < q) (h3 : q < x) (h4 : x ≤ y) (h5 : y ≤ g) (h6 : g < p) :
    St ⟨bu, ini, li, rd, p, g, l, q, d⟩ No w1 (sca ⟨bu, ini, li, rd, p, g, l, q, d⟩ (.slice none 0 0) (.slice none 0 0) (raw ini)) (.slice none 0 0) (.slice none 0 0) 0 [] (raw ini) w := by
  have h7 := hp.lt
  have hd' := De.Decider.good.bd hd
  refine ⟨Y2.wide.mono (S := fun k => w1.heap.size ≤ k ∧ k < w.heap.size) ?_ (fun k hk => ⟨.inr hk.1, hk.2⟩) fun _ hk => hk.2, c⟩
  refine ⟨fun k hk => hk.2, fun k => k = p, fun k => w1.heap.size ≤ k ∧ k < p, fun k hk => by omega, fun k hk => by omega, fun k h h' => by omega, ⟨fun k hk => by omega, rfl, hp⟩, fun k hk => by omega, fun k => k = g, fun k => w1.heap.size ≤ k ∧ k < g, fun k hk => by omega, fun k hk => by omega, fun k h h' => by omega, ⟨fun k hk => by omega, rfl, hg⟩, fun k hk => by omega,
    fun k => k = l, fun k => l < k ∧ k < g, fun k hk => by omega, fun k hk => by omega, fun k h h' => by omega, hl, fun k hk => by omega, fun k => k = q, fun k => q < k ∧ k < g, fun k hk => by omega, fun k hk => by omega, fun k h h' => by omega, hq, fun k hk => by omega, fun k => x ≤ k ∧ k < y, fun _ => False, fun k hk => by omega, fun k hk => hk.elim, fun k _ h' => h', hd, fun k hk => hk.elim, fun _ => False, fun _ => False, fun k hk => hk, fun k hk => hk, fun k h _ => h, ⟨fun k hk => hk.elim, Own.nil _ _ _ _⟩, ⟨fun k hk => hk.elim, Own.nil _ _ _ _⟩⟩
theorem keepB {bu ini li rd : Int} {w w' : World} {B : Nat} (h : Hid (Blk w B (ca bu ini li rd) 24) ∧ rowOf w B 0 20 = some (.agg (ca bu ini li rd)) ∧ w.cell? ⟨B, 15, none⟩ = some (.int .i64 100) ∧ w.cell? ⟨B, 10, none⟩ = some (.int .i64 ini)) (c : Chg No w w') :
    Hid (Blk w' B (ca bu ini li rd) 24) ∧ rowOf w' B 0 20 = some (.agg (ca bu ini li rd)) ∧ w'.cell? ⟨B, 15, none⟩ = some (.int .i64 100) ∧ w'.cell? ⟨B, 10, none⟩ = some (.int .i64 ini) := by
  have hb : Blk w' B (ca bu ini li rd) 24 := h.1.out.kept c
  have hr := rowOf_blk hb
  rw [ca_size] at hr
  exact ⟨hb, hr, cell_ca hb 15, cell_ca hb 10⟩

set_option maxHeartbeats 8000000 in
theorem new_any (hm : Said.may) (bu ini li rd : Int) (ok : P.Ok bu ini li rd) (w : World) : Calls Tryz.prog 8 #[.agg (ca bu ini li rd)] w fun e w' => ∃ p g l q d, e = .returned (.tuple #[.pointer (some ⟨p, 0, none⟩), .int .i64 0]) ∧ Aft ⟨bu, ini, li, rd, p, g, l, q, d⟩ No w (V.new bu ini li) w' := by
  have HM := Lib.hid (hm bu ini li rd ok)
  have HMM := Lib.hid hm
  have HK := Lib.hid ok
  have HD := Lib.hid (De.new_any hm bu ini li rd ok)
  have hin := ok.ini
  clear hm ok
  go_enter Tryz.func8, Tryz.ntmps8
  go_wp2_with fail
  have hB : Blk (w.alloc (.cells (ca bu ini li rd) 24)) w.heap.size (ca bu ini li rd) 24 := Blk.new _ _ _
  have HC : Hid (Chg No w (w.alloc (.cells (ca bu ini li rd) 24))) := (Chg.refl No w).alloc _
  have hsz : w.heap.size < (w.alloc (.cells (ca bu ini li rd) 24)).heap.size := by simp
  generalize w.alloc (.cells (ca bu ini li rd) 24) = w1 at *
  generalize w.heap.size = X0 at *
  have hr := rowOf_blk hB
  rw [ca_size] at hr
  go_wp2_with (first | (go_at_call 16; refine (HM.out _).mono ?_; rintro e w2 ⟨rfl, hc⟩))
  have hS : Hid (Blk w2.drew X0 (ca bu ini li rd) 24) ∧ rowOf w2.drew X0 0 20 = some (.agg (ca bu ini li rd)) ∧ w2.drew.cell? ⟨X0, 15, none⟩ = some (.int .i64 100) ∧ w2.drew.cell? ⟨X0, 10, none⟩ = some (.int .i64 ini) := by
    have hb : Blk w2.drew X0 (ca bu ini li rd) 24 := hB.kept hc.drew
    have hr := rowOf_blk hb
    rw [ca_size] at hr
    exact ⟨hb, hr, cell_ca hb 15, cell_ca hb 10⟩
  have HC2 := Lib.hid hc
  clear hr HM hc
  go_region_held3 (fun w' => Hid (Blk w' X0 (ca bu ini li rd) 24) ∧ rowOf w' X0 0 20 = some (.agg (ca bu ini li rd)) ∧ w'.cell? ⟨X0, 15, none⟩ = some (.int .i64 100) ∧ w'.cell? ⟨X0, 10, none⟩ = some (.int .i64 ini)) (first | exact hS | assumption | exact keepB (by assumption) hc3 | exact keepB (by assumption) hc5 | exact keepB (by assumption) ((Chg.refl No _).alloc _)) (first | (go_at_call 17; refine (B.life_new _).mono ?_; rintro e w3 ⟨rfl, rfl⟩) | (go_at_call 18; refine (B.queue_new _ _ (by omega) (by omega)).mono ?_; rintro e w4 ⟨rfl, rfl⟩) | (go_at_call 19; refine (HD.out _).mono ?_; rintro e w5 ⟨d, rfl, hdec, hc3⟩) | (go_at_call 20; refine (state_new _).mono ?_; rintro e w6 ⟨rfl, hc5⟩))
  all_goals have hli := HK.out.li
  all_goals have HCC := Lib.hid (HC.out.trans HC2.out)
  all_goals have HX2 : Hid (Blk w2 X0 (ca bu ini li rd) 24) := hB.kept HC2.out
  all_goals clear hB hS hsz
  · rename_i hHeld
    clear hHeld
    have s3 : (w2.alloc (.cells #[.slice none 0 0, .int .i64 0] 83)).heap.size = w2.heap.size + 1 := by simp
    have s4 : ((w2.alloc (.cells #[.slice none 0 0, .int .i64 0] 83)).alloc (.cells #[.slice none 0 0, .int .i64 100, .int .i64 (-9223372036854775808)] 85)).heap.size = w2.heap.size + 2 := by simp
    have d3 := B.life_new_rep w2
    have d4 := B.queue_new_rep (w2.alloc (.cells #[.slice none 0 0, .int .i64 0] 83)) 100 (-9223372036854775808)
    rw [s3] at d4
    have g4 := Blk.new w5 (pc w2.heap.size (w2.heap.size + 1) d) 20
    have z3 : w2.heap.size + 2 ≤ w5.heap.size := by have := hc3.size; simp at this; omega
    have z5 : w5.heap.size + 1 ≤ w6.heap.size := by have := hc5.size; simp at this; omega
    have hraw := raw_rep (w1 := w2) (w := w6.alloc (.cells (rawc bu ini li rd w5.heap.size) 66)) (p := w6.heap.size) (x := w2.heap.size + 2) (y := w5.heap.size) (d3.kept ((((Chg.refl No _).alloc _).drew.trans hc3).trans (((Chg.refl No _).alloc _).trans (hc5.alloc _)))) (d4.kept (((Chg.refl No _).drew.trans hc3).trans (((Chg.refl No _).alloc _).trans (hc5.alloc _)))) (De.Decider.good.kept (by simpa [s4] using hdec) (((Chg.refl No _).alloc _).trans (hc5.alloc _))) (g4.kept (hc5.alloc _)) (Blk.new _ _ _) ((((Chg.refl No w2).alloc _).alloc _).drew.trans (hc3.trans (((Chg.refl No _).alloc _).trans (hc5.alloc _)))) (by omega) (by omega) (by omega) (by omega) (by omega) (by omega)
    clear hdec hc3 hc5 d3 d4 g4 z3 z5 s3 s4
    have HR0 := Lib.hid hraw
    clear hraw
    generalize w6.heap.size = pp at *
    generalize w5.heap.size = gg at *
    generalize w2.heap.size = l0 at *
    generalize hqq : l0 + 1 = q0 at *
    clear hqq
    generalize w6.alloc (.cells (rawc bu ini li rd gg) 66) = wf at *
    obtain ⟨a, ha⟩ : ∃ a : At, a = ⟨bu, ini, li, rd, pp, gg, l0, q0, d⟩ := ⟨_, rfl⟩
    have ap : a.p = pp := by rw [ha]
    have al : a.l = l0 := by rw [ha]
    rw [← ha] at HR0
    have HA := Lib.hid ha
    clear ha
    subst ap al
    simp only [Exit.then]
    go_wp2_with fail
    obtain ⟨x, hx⟩ : ∃ x, M.scale ini.toNat 0 [] 0 = x := ⟨_, rfl⟩
    have HX := Lib.hid hx
    have p0 : V.PodsOk li 0 0 [] := ⟨by decide, List.nodup_nil, fun p hp => by simp at hp, by decide, by decide⟩
    have hpo : V.PodsOk li 0 x.2 x.1 := by
      rw [← hx]
      exact (p0.scale (by decide) (by omega) ini.toNat (by omega) (by decide)).1
    have hld : V.load x.1 ≤ 0 := by
      rw [← hx]
      exact (p0.scale (by decide) (by omega) ini.toNat (by omega) (by decide)).2
    obtain ⟨hok, _, _⟩ := pods_small (n := 0) hpo (by omega) (by omega) (by omega) (by omega)
    have HOK := Lib.hid hok
    clear hx hpo hld hok
    refine new4_at (by kernel_rfl) X0 a.p a.l ini (fun _ b w' => St a No w2 (sca a (.slice none 0 0) (.slice none 0 0) (raw ini)) (.slice none 0 0) (.slice none 0 0) 0 [] (cond b { raw ini with pods := x.1, made := x.2 } (raw ini)) w') (fun _ _ y => cell_ca (HX2.out.kept y.2) 10) (fun _ w' y => (pods_any y (sc21 a _ _ _)).mono fun e w'' ⟨h1, h2⟩ => ⟨h1, y.no h2⟩) (fun _ w' y => ?_) _ rfl rfl rfl () (HR0.out.no (Chg.refl No _).drew) fun _ w7 h7 => ?_
    · have y' : St a No w2 (sca a (.slice none 0 0) (.slice none 0 0) (raw ini)) (.slice none 0 0) (.slice none 0 0) 0 [] (raw ini) w' := y
      obtain ⟨C, hl, back⟩ := y'.life
      have hsc := A.scale_any w' C a.l [] 0 hl ⟨by simp, fun q hq => by simp at hq⟩ ini.toNat 0 (by omega) (by omega) (by omega) (by simp) (by omega) (by omega)
      rw [Int.toNat_of_nonneg hin.1, HX.out] at hsc
      exact hsc.mono fun e w'' ⟨h1, h2, h3⟩ => ⟨h1, back _ _ w'' h2 h3⟩
    have H7 : Hid (St a No w2 (sca a (.slice none 0 0) (.slice none 0 0) { raw ini with pods := x.1, made := x.2 }) (.slice none 0 0) (.slice none 0 0) 0 [] { raw ini with pods := x.1, made := x.2 } w7) := h7
    clear h7 HR0
    simp only [lay_new4, puts, List.setIfInBounds_toArray, List.set_cons_succ, List.set_cons_zero]
    go_wp2_with fail
    refine (pods_any H7.out (sc21 a _ _ _)).mono ?_
    rintro e w8 ⟨rfl, hc8⟩
    have H8 := Lib.hid (H7.out.no hc8)
    clear H7 hc8
    go_wp2_with fail
    obtain ⟨C, hl, back⟩ := H8.out.life
    refine (A.ripe_any w8 C a.l x.1 x.2 hl HOK.out 0 0 (by omega) (by omega)).mono ?_
    rintro e w9 ⟨rfl, h9, hc9⟩
    have H9 : Hid (St a No w2 (sca a (.slice none 0 0) (.slice none 0 0) { raw ini with pods := x.1.map (M.ripe 0 0), made := x.2 }) (.slice none 0 0) (.slice none 0 0) 0 [] { raw ini with pods := x.1.map (M.ripe 0 0), made := x.2 } w9) := back _ x.2 w9 (LifeR.wide.nx' LifeR.good h9) hc9
    clear H8 hl back h9 hc9
    go_wp2_with fail
    refine new6_at (by kernel_rfl) bu ini li rd X0 a.p (P.excess bu li ini 0) (P.proxy bu ini (P.excess bu li ini 0)) (fun _ b w' => St a No w2 (cond b (sca a (.slice none 0 0) (.slice none 0 0) { raw ini with pods := x.1.map (M.ripe 0 0), made := x.2, proxy := P.proxy bu ini (P.excess bu li ini 0) }) (sca a (.slice none 0 0) (.slice none 0 0) { raw ini with pods := x.1.map (M.ripe 0 0), made := x.2 })) (.slice none 0 0) (.slice none 0 0) 0 [] { raw ini with pods := x.1.map (M.ripe 0 0), made := x.2 } w') (fun _ w' y => by
      have hr := rowOf_blk (HX2.out.kept y.2)
      rw [ca_size] at hr
      exact hr) (fun _ _ y => cell_ca (HX2.out.kept y.2) 10) (fun _ w' y => (P.excess_any HMM.out bu ini li rd HK.out ini 0 w' (by omega) (by omega) (by omega) (by omega)).mono fun e w'' ⟨h1, h2⟩ => ⟨h1, y.no h2⟩) (fun _ w' y => (P.proxy_any HMM.out bu ini li rd HK.out ini _ w').mono fun e w'' ⟨h1, h2⟩ => ⟨h1, y.no h2⟩) (fun _ w' y => ?_) _ rfl rfl rfl () (H9.out.no (Chg.refl No _).drew) fun _ w10 h10 => ?_
    · refine ⟨_, by rw [y.blk.cell]; exact sc30 _ _ _ _, y.blk.free 30, ?_⟩
      have h6 := y.cell 30 (.bool (P.proxy bu ini (P.excess bu li ini 0)))
      have e6 : (cond false (sca a (.slice none 0 0) (.slice none 0 0) { raw ini with pods := x.1.map (M.ripe 0 0), made := x.2, proxy := P.proxy bu ini (P.excess bu li ini 0) }) (sca a (.slice none 0 0) (.slice none 0 0) { raw ini with pods := x.1.map (M.ripe 0 0), made := x.2 })).setIfInBounds 30 (.bool (P.proxy bu ini (P.excess bu li ini 0))) = sca a (.slice none 0 0) (.slice none 0 0) { raw ini with pods := x.1.map (M.ripe 0 0), made := x.2, proxy := P.proxy bu ini (P.excess bu li ini 0) } := sc_set30 a _ _ { raw ini with pods := x.1.map (M.ripe 0 0), made := x.2 } _
      rw [e6] at h6
      exact h6
    have H10 : Hid (Aft a No w (V.new bu ini li) w10) := by
      have h11 : St a No w2 (sca a (.slice none 0 0) (.slice none 0 0) { raw ini with pods := x.1.map (M.ripe 0 0), made := x.2, proxy := P.proxy bu ini (P.excess bu li ini 0) }) (.slice none 0 0) (.slice none 0 0) 0 [] { raw ini with pods := x.1.map (M.ripe 0 0), made := x.2, proxy := P.proxy bu ini (P.excess bu li ini 0) } w10 := h10
      have e : V.new bu ini li = { raw ini with pods := x.1.map (M.ripe 0 0), made := x.2, proxy := P.proxy bu ini (P.excess bu li ini 0) } := by
        rw [← HX.out]
        rfl
      rw [e]
      exact ⟨_, _, 0, by omega, [], Y2.wide.mono h11.1 (fun k hk => ⟨.inr (hk.1.elim False.elim fun h => Nat.le_trans HCC.out.size h), hk.2⟩) (fun _ hk => hk.2), HCC.out.trans h11.2⟩
    clear h10 H9
    simp only [lay_new6, puts, List.setIfInBounds_toArray, List.set_cons_succ, List.set_cons_zero]
    go_wp2_with fail
    go_ret2
    rw [HA.out] at H10
    exact ⟨_, _, _, _, _, rfl, H10.out⟩
  · rename_i hHeld
    clear hHeld
    have s3 : (w2.alloc (.cells #[.slice none 0 0, .int .i64 0] 83)).heap.size = w2.heap.size + 1 := by simp
    have s4 : ((w2.alloc (.cells #[.slice none 0 0, .int .i64 0] 83)).alloc (.cells #[.slice none 0 0, .int .i64 100, .int .i64 (-9223372036854775808)] 85)).heap.size = w2.heap.size + 2 := by simp
    have d3 := B.life_new_rep w2
    have d4 := B.queue_new_rep (w2.alloc (.cells #[.slice none 0 0, .int .i64 0] 83)) 100 (-9223372036854775808)
    rw [s3] at d4
    have z3 : w2.heap.size + 2 ≤ w5.heap.size := by have := hc3.size; simp at this; omega
    have z5 : w5.heap.size ≤ w6.heap.size := hc5.size
    have z6 : (w6.alloc (.cells (pc w2.heap.size (w2.heap.size + 1) d) 20)).heap.size = w6.heap.size + 1 := by simp
    have g4 := Blk.new w6 (pc w2.heap.size (w2.heap.size + 1) d) 20
    have b4 := Blk.new (w6.alloc (.cells (pc w2.heap.size (w2.heap.size + 1) d) 20)) (rawc bu ini li rd w6.heap.size) 66
    rw [z6] at b4
    have hraw := raw_rep (w1 := w2) (w := (w6.alloc (.cells (pc w2.heap.size (w2.heap.size + 1) d) 20)).alloc (.cells (rawc bu ini li rd w6.heap.size) 66)) (p := w6.heap.size + 1) (x := w2.heap.size + 2) (y := w5.heap.size) (d3.kept ((((Chg.refl No _).alloc _).drew.trans hc3).trans ((hc5.alloc _).alloc _))) (d4.kept (((Chg.refl No _).drew.trans hc3).trans ((hc5.alloc _).alloc _))) (De.Decider.good.kept (by simpa [s4] using hdec) ((hc5.alloc _).alloc _)) (g4.kept ((Chg.refl No _).alloc _)) b4 ((((Chg.refl No w2).alloc _).alloc _).drew.trans (hc3.trans ((hc5.alloc _).alloc _))) (by omega) (by omega) (by omega) (by omega) (by omega) (by omega)
    clear hdec hc3 hc5 d3 d4 g4 b4 z3 z5 s3 s4
    have HR0 := Lib.hid hraw
    clear hraw
    try rw [z6]
    clear z6
    generalize hpp : w6.heap.size + 1 = pp at *
    clear hpp
    generalize w6.heap.size = gg at *
    generalize w2.heap.size = l0 at *
    generalize hqq : l0 + 1 = q0 at *
    clear hqq
    rw [show (#[.iface 52 (.pointer (some ⟨l0, 0, none⟩)), .iface 54 (.pointer (some ⟨q0, 0, none⟩)), .iface 56 (.pointer (some ⟨d, 0, none⟩))] : Array Value) = pc l0 q0 d from rfl]
    generalize (w6.alloc (.cells (pc l0 q0 d) 20)).alloc (.cells (rawc bu ini li rd gg) 66) = wf at *
    obtain ⟨a, ha⟩ : ∃ a : At, a = ⟨bu, ini, li, rd, pp, gg, l0, q0, d⟩ := ⟨_, rfl⟩
    have ap : a.p = pp := by rw [ha]
    have al : a.l = l0 := by rw [ha]
    rw [← ha] at HR0
    have HA := Lib.hid ha
    clear ha
    subst ap al
    simp only [Exit.then]
    go_wp2_with fail
    obtain ⟨x, hx⟩ : ∃ x, M.scale ini.toNat 0 [] 0 = x := ⟨_, rfl⟩
    have HX := Lib.hid hx
    have p0 : V.PodsOk li 0 0 [] := ⟨by decide, List.nodup_nil, fun p hp => by simp at hp, by decide, by decide⟩
    have hpo : V.PodsOk li 0 x.2 x.1 := by
      rw [← hx]
      exact (p0.scale (by decide) (by omega) ini.toNat (by omega) (by decide)).1
    have hld : V.load x.1 ≤ 0 := by
      rw [← hx]
      exact (p0.scale (by decide) (by omega) ini.toNat (by omega) (by decide)).2
    obtain ⟨hok, _, _⟩ := pods_small (n := 0) hpo (by omega) (by omega) (by omega) (by omega)
    have HOK := Lib.hid hok
    clear hx hpo hld hok
    refine new4_at (by kernel_rfl) X0 a.p a.l ini (fun _ b w' => St a No w2 (sca a (.slice none 0 0) (.slice none 0 0) (raw ini)) (.slice none 0 0) (.slice none 0 0) 0 [] (cond b { raw ini with pods := x.1, made := x.2 } (raw ini)) w') (fun _ _ y => cell_ca (HX2.out.kept y.2) 10) (fun _ w' y => (pods_any y (sc21 a _ _ _)).mono fun e w'' ⟨h1, h2⟩ => ⟨h1, y.no h2⟩) (fun _ w' y => ?_) _ rfl rfl rfl () (HR0.out.no (Chg.refl No _).drew) fun _ w7 h7 => ?_
    · have y' : St a No w2 (sca a (.slice none 0 0) (.slice none 0 0) (raw ini)) (.slice none 0 0) (.slice none 0 0) 0 [] (raw ini) w' := y
      obtain ⟨C, hl, back⟩ := y'.life
      have hsc := A.scale_any w' C a.l [] 0 hl ⟨by simp, fun q hq => by simp at hq⟩ ini.toNat 0 (by omega) (by omega) (by omega) (by simp) (by omega) (by omega)
      rw [Int.toNat_of_nonneg hin.1, HX.out] at hsc
      exact hsc.mono fun e w'' ⟨h1, h2, h3⟩ => ⟨h1, back _ _ w'' h2 h3⟩
    have H7 : Hid (St a No w2 (sca a (.slice none 0 0) (.slice none 0 0) { raw ini with pods := x.1, made := x.2 }) (.slice none 0 0) (.slice none 0 0) 0 [] { raw ini with pods := x.1, made := x.2 } w7) := h7
    clear h7 HR0
    simp only [lay_new4, puts, List.setIfInBounds_toArray, List.set_cons_succ, List.set_cons_zero]
    go_wp2_with fail
    refine (pods_any H7.out (sc21 a _ _ _)).mono ?_
    rintro e w8 ⟨rfl, hc8⟩
    have H8 := Lib.hid (H7.out.no hc8)
    clear H7 hc8
    go_wp2_with fail
    obtain ⟨C, hl, back⟩ := H8.out.life
    refine (A.ripe_any w8 C a.l x.1 x.2 hl HOK.out 0 0 (by omega) (by omega)).mono ?_
    rintro e w9 ⟨rfl, h9, hc9⟩
    have H9 : Hid (St a No w2 (sca a (.slice none 0 0) (.slice none 0 0) { raw ini with pods := x.1.map (M.ripe 0 0), made := x.2 }) (.slice none 0 0) (.slice none 0 0) 0 [] { raw ini with pods := x.1.map (M.ripe 0 0), made := x.2 } w9) := back _ x.2 w9 (LifeR.wide.nx' LifeR.good h9) hc9
    clear H8 hl back h9 hc9
    go_wp2_with fail
    refine new6_at (by kernel_rfl) bu ini li rd X0 a.p (P.excess bu li ini 0) (P.proxy bu ini (P.excess bu li ini 0)) (fun _ b w' => St a No w2 (cond b (sca a (.slice none 0 0) (.slice none 0 0) { raw ini with pods := x.1.map (M.ripe 0 0), made := x.2, proxy := P.proxy bu ini (P.excess bu li ini 0) }) (sca a (.slice none 0 0) (.slice none 0 0) { raw ini with pods := x.1.map (M.ripe 0 0), made := x.2 })) (.slice none 0 0) (.slice none 0 0) 0 [] { raw ini with pods := x.1.map (M.ripe 0 0), made := x.2 } w') (fun _ w' y => by
      have hr := rowOf_blk (HX2.out.kept y.2)
      rw [ca_size] at hr
      exact hr) (fun _ _ y => cell_ca (HX2.out.kept y.2) 10) (fun _ w' y => (P.excess_any HMM.out bu ini li rd HK.out ini 0 w' (by omega) (by omega) (by omega) (by omega)).mono fun e w'' ⟨h1, h2⟩ => ⟨h1, y.no h2⟩) (fun _ w' y => (P.proxy_any HMM.out bu ini li rd HK.out ini _ w').mono fun e w'' ⟨h1, h2⟩ => ⟨h1, y.no h2⟩) (fun _ w' y => ?_) _ rfl rfl rfl () (H9.out.no (Chg.refl No _).drew) fun _ w10 h10 => ?_
    · refine ⟨_, by rw [y.blk.cell]; exact sc30 _ _ _ _, y.blk.free 30, ?_⟩
      have h6 := y.cell 30 (.bool (P.proxy bu ini (P.excess bu li ini 0)))
      have e6 : (cond false (sca a (.slice none 0 0) (.slice none 0 0) { raw ini with pods := x.1.map (M.ripe 0 0), made := x.2, proxy := P.proxy bu ini (P.excess bu li ini 0) }) (sca a (.slice none 0 0) (.slice none 0 0) { raw ini with pods := x.1.map (M.ripe 0 0), made := x.2 })).setIfInBounds 30 (.bool (P.proxy bu ini (P.excess bu li ini 0))) = sca a (.slice none 0 0) (.slice none 0 0) { raw ini with pods := x.1.map (M.ripe 0 0), made := x.2, proxy := P.proxy bu ini (P.excess bu li ini 0) } := sc_set30 a _ _ { raw ini with pods := x.1.map (M.ripe 0 0), made := x.2 } _
      rw [e6] at h6
      exact h6
    have H10 : Hid (Aft a No w (V.new bu ini li) w10) := by
      have h11 : St a No w2 (sca a (.slice none 0 0) (.slice none 0 0) { raw ini with pods := x.1.map (M.ripe 0 0), made := x.2, proxy := P.proxy bu ini (P.excess bu li ini 0) }) (.slice none 0 0) (.slice none 0 0) 0 [] { raw ini with pods := x.1.map (M.ripe 0 0), made := x.2, proxy := P.proxy bu ini (P.excess bu li ini 0) } w10 := h10
      have e : V.new bu ini li = { raw ini with pods := x.1.map (M.ripe 0 0), made := x.2, proxy := P.proxy bu ini (P.excess bu li ini 0) } := by
        rw [← HX.out]
        rfl
      rw [e]
      exact ⟨_, _, 0, by omega, [], Y2.wide.mono h11.1 (fun k hk => ⟨.inr (hk.1.elim False.elim fun h => Nat.le_trans HCC.out.size h), hk.2⟩) (fun _ hk => hk.2), HCC.out.trans h11.2⟩
    clear h10 H9
    simp only [lay_new6, puts, List.setIfInBounds_toArray, List.set_cons_succ, List.set_cons_zero]
    go_wp2_with fail
    go_ret2
    rw [HA.out] at H10
    exact ⟨_, _, _, _, _, rfl, H10.out⟩
end Go.Proofs.YtdgphoemjeakaaaGreatDoor.Y

/-! The whole service: the settings that are given. -/
namespace Go.Proofs.YtdgphoemjeakaaaGreatDoor.Y
open Go.Proofs.YtdgphoemjeakaaaGreatDoor.Rg
open Go.Proofs.YtdgphoemjeakaaaGreatDoor.Me
open Go.RowKit Go.Proofs.YtdgphoemjeakaaaGreatDoor Go.Proofs.YtdgphoemjeakaaaGreatDoor.K Go.Proofs.YtdgphoemjeakaaaGreatDoor.P Go.Proofs.YtdgphoemjeakaaaGreatDoor.U Go.Proofs.YtdgphoemjeakaaaGreatDoor.R
set_option maxRecDepth 100000

theorem wset_20 (w : World) (B : Nat) (v0 v1 v2 v3 v4 v5 v6 v7 v8 v9 v10 v11 v12 v13 v14 v15 v16 v17 v18 v19 : Value) : wset w B 0 [v0, v1, v2, v3, v4, v5, v6, v7, v8, v9, v10, v11, v12, v13, v14, v15, v16, v17, v18, v19] = ((((((((((((((((((((w.setCell ⟨B, 0, none⟩ v0).setCell ⟨B, 1, none⟩ v1).setCell ⟨B, 2, none⟩ v2).setCell ⟨B, 3, none⟩ v3).setCell ⟨B, 4, none⟩ v4).setCell ⟨B, 5, none⟩ v5).setCell ⟨B, 6, none⟩ v6).setCell ⟨B, 7, none⟩ v7).setCell ⟨B, 8, none⟩ v8).setCell ⟨B, 9, none⟩ v9).setCell ⟨B, 10, none⟩ v10).setCell ⟨B, 11, none⟩ v11).setCell ⟨B, 12, none⟩ v12).setCell ⟨B, 13, none⟩ v13).setCell ⟨B, 14, none⟩ v14).setCell ⟨B, 15, none⟩ v15).setCell ⟨B, 16, none⟩ v16).setCell ⟨B, 17, none⟩ v17).setCell ⟨B, 18, none⟩ v18).setCell ⟨B, 19, none⟩ v19) := rfl
/-- Nothing yet. -/
def xcells : Array Value := #[.int .i64 0, .int .i64 0, .int .i64 0, .int .i64 0, .int .i64 0, .int .i64 0, .int .i64 0, .int .i64 0, .int .i64 0, .int .i64 0, .int .i64 0, .int .i64 0, .int .i64 0, .int .i64 0, .int .i64 0, .int .i64 0, .int .i64 0, .int .i64 0, .int .i64 0, .int .i64 0]
theorem aset_x (bu ini li rd : Int) : aset xcells 0 [.int .i64 10000, .int .i64 700, .int .i64 60, .int .i64 6, .int .i64 1, .int .i64 2000, .int .i64 10000, .int .i64 2000, .int .i64 0, .int .i64 0, .int .i64 ini, .int .i64 30, .int .i64 0, .int .i64 bu, .int .i64 li, .int .i64 100, .int .i64 60, .int .i64 rd, .int .i64 0, .int .i64 0] = ca bu ini li rd := by kernel_rfl
@[go_sem ↓] theorem exec_bld24 (ρ : Operand → Value) (dst : Option Tmp) (fs : Array (Nat × Operand)) (ty : TypeId) (pos : String) (after : Array Edge) (gd : Option (Nat × Bool)) (w : World) : (execOp ρ { dst := dst, op := .build 24 fs, type := ty, pos := pos, after := after, guard := gd }).run Tryz.prog w = bld 24 (fs.map fun x => (x.1, ρ x.2)) w := rfl
@[go_sem] theorem bld24 (w : World) : bld 24 #[(0, .int .i64 10000), (1, .int .i64 700), (2, .int .i64 60), (3, .int .i64 6), (4, .int .i64 1), (5, .int .i64 2000), (6, .int .i64 10000), (7, .int .i64 2000), (10, .int .i64 1), (11, .int .i64 30), (13, .int .i64 20000), (14, .int .i64 10), (15, .int .i64 100), (16, .int .i64 60), (17, .int .i64 3)] w = .ok (.value (.agg (ca 20000 1 10 3))) w := by
  kernel_rfl
/-- A struct that is stored. -/
noncomputable def sto (t : TypeId) (a v : Value) (w : World) : Result Next := (do Instr.storeAt t a v; pure .skip : Sem Next).run Tryz.prog w
@[local go_sem ↓] theorem exec_sto24 (ρ : Operand → Value) (dst : Option Tmp) (a x : Operand) (ty : TypeId) (pos : String) (after : Array Edge) (gd : Option (Nat × Bool)) (w : World) : (execOp ρ { dst := dst, op := .store 24 a x, type := ty, pos := pos, after := after, guard := gd }).run Tryz.prog w = sto 24 (ρ a) (ρ x) w := rfl
theorem ca_one (bu ini li rd : Int) : (ca bu ini li rd).all (·.oneCell') = true := by kernel_rfl
@[local go_sem] theorem sto24 (w : World) (v0 v1 v2 v3 v4 v5 v6 v7 v8 v9 v10 v11 v12 v13 v14 v15 v16 v17 v18 v19 : Value) (bu ini li rd : Int) : sto 24 (.pointer (some ⟨w.heap.size, 0, none⟩)) (.agg (ca bu ini li rd)) (w.alloc (.cells #[v0, v1, v2, v3, v4, v5, v6, v7, v8, v9, v10, v11, v12, v13, v14, v15, v16, v17, v18, v19] 24)) = .ok .skip (w.alloc (.cells (ca bu ini li rd) 24)) := by
  simp only [sto, Sem.run_bind, run_storeAt_new (P := Tryz.prog) w 24 #[v0, v1, v2, v3, v4, v5, v6, v7, v8, v9, v10, v11, v12, v13, v14, v15, v16, v17, v18, v19] (ca bu ini li rd) (by kernel_rfl) (by kernel_rfl) (ca_one _ _ _ _)]
  rfl
theorem setCells_wset (B : Nat) : ∀ (l : List Value) (o : Nat) (w : World), w.setCells B o l = wset w B o l
  | [], _, _ => rfl
  | v :: l, o, w => by rw [World.setCells, wset, setCells_wset B l]
theorem sto24m (w : World) (B : Nat) (cs : Array Value) (ht : w.there B 0 20) (hn : cs.size = 20) (h1 : cs.all (·.oneCell') = true) : sto 24 (.pointer (some ⟨B, 0, none⟩)) (.agg cs) w = .ok .skip (wset w B 0 cs.toList) := by
  simp only [sto, Sem.run_bind, run_storeAt_mid (P := Tryz.prog) w B 0 24 cs (by rw [hn]; exact ht) (by rw [hn]; kernel_rfl) h1]
  rw [← setCells_wset]
  rfl
/-- One result that lies in a cell. -/
theorem res_cell (fn : Func) (a : Tmp) (t : TypeId) (x : Addr) (v : Value) (tmps : Array Value) (w : World) (hf : fn.results = #[.cell a t]) (ha : tmps.getD a undef = .pointer (some x)) (h : (loadVar t x).run Tryz.prog w = .ok v w) : (results fn tmps).run Tryz.prog w = .ok v w := by
  have ha2 : tmps[a]?.getD undef = .pointer (some x) := by rw [← Array.getD_eq_getD_getElem?]; exact ha
  unfold results
  rw [hf]
  simp [ha2, asAddr, h]
set_option maxHeartbeats 8000000 in
theorem default_any (w : World) : Calls Tryz.prog 7 #[] w fun e w' => e = .returned (.agg (ca 20000 1 10 3)) ∧ Chg No w w' := by
  go_enter Tryz.func7, Tryz.ntmps7
  go_wp2_with fail
  have hB := Blk.new w (ca 20000 1 10 3) 24
  have hr := rowOf_blk hB
  rw [ca_size] at hr
  try simp only [Exit.inBlock, Exit.then]
  refine bodyPost_ret (v := .agg (ca 20000 1 10 3)) ?_ rfl ⟨rfl, (Chg.refl No w).alloc _⟩
  have h24 := load24 (w := w.alloc (.cells (ca 20000 1 10 3) 24)) (b := w.heap.size) (o := 0) (by rw [hr]; rfl)
  rw [hr] at h24
  generalize w.alloc (.cells (ca 20000 1 10 3) 24) = w1 at *
  generalize w.heap.size = B at *
  simp only [Instr.loadAt, Instr.sureAddr, Sem.run_bind, Sem.run_pure, Result.andThen_ok, Option.getD_some] at h24
  generalize ca 20000 1 10 3 = v at *
  exact res_cell _ _ _ _ _ _ _ rfl rfl h24
end Go.Proofs.YtdgphoemjeakaaaGreatDoor.Y

/-! The whole service: to look at it; New by one name. -/
namespace Go.Proofs.YtdgphoemjeakaaaGreatDoor.Y
open Go.Proofs.YtdgphoemjeakaaaGreatDoor.Rg
open Go.Proofs.YtdgphoemjeakaaaGreatDoor.Me
open Go.RowKit Go.Proofs.YtdgphoemjeakaaaGreatDoor Go.Proofs.YtdgphoemjeakaaaGreatDoor.K Go.Proofs.YtdgphoemjeakaaaGreatDoor.P Go.Proofs.YtdgphoemjeakaaaGreatDoor.U Go.Proofs.YtdgphoemjeakaaaGreatDoor.R

/-- What is seen, in a variable. -/
def vs (s : V.Sys) (x : Option Addr × Nat) : Array Value := vcells s.now s.want s.ld.panic s.proxy x.1 s.pods.length x.2 s.q.length (V.ends s.rs 2) (V.ends s.rs)
theorem vs_one (s : V.Sys) (x : Option Addr × Nat) : (vs s x).all (·.oneCell') = true := by kernel_rfl
theorem exec_sto38 (ρ : Operand → Value) (dst : Option Tmp) (a x : Operand) (ty : TypeId) (pos : String) (after : Array Edge) (gd : Option (Nat × Bool)) (w : World) : (execOp ρ { dst := dst, op := .store 38 a x, type := ty, pos := pos, after := after, guard := gd }).run Tryz.prog w = sto 38 (ρ a) (ρ x) w := rfl
theorem sto38 (w : World) (s : V.Sys) (x : Option Addr × Nat) : sto 38 (.pointer (some ⟨w.heap.size, 0, none⟩)) (.agg (vs s x)) (w.alloc (.cells #[.int .i64 0, .int .i64 0, .bool false, .bool false, .slice none 0 0, .int .i64 0, .int .i64 0, .int .i64 0, .int .i64 0, .int .i64 0, .int .i64 0, .int .i64 0, .int .i64 0, .int .i64 0, .bool false] 38)) = .ok .skip (w.alloc (.cells (vs s x) 38)) := by
  simp only [sto, Sem.run_bind, run_storeAt_new (P := Tryz.prog) w 38 #[.int .i64 0, .int .i64 0, .bool false, .bool false, .slice none 0 0, .int .i64 0, .int .i64 0, .int .i64 0, .int .i64 0, .int .i64 0, .int .i64 0, .int .i64 0, .int .i64 0, .int .i64 0, .bool false] (vs s x) (by kernel_rfl) (by kernel_rfl) (vs_one _ _)]
  rfl
theorem sto38m {w : World} {B : Nat} (s : V.Sys) (x : Option Addr × Nat) (ht : w.there B 0 15) : sto 38 (.pointer (some ⟨B, 0, none⟩)) (.agg (vs s x)) w = .ok .skip (wset w B 0 (vs s x).toList) := by
  have hn : (vs s x).size = 15 := by kernel_rfl
  simp only [sto, Sem.run_bind, run_storeAt_mid (P := Tryz.prog) w B 0 38 (vs s x) (by rw [hn]; exact ht) (by rw [hn]; kernel_rfl) (vs_one s x)]
  rw [← setCells_wset]
  rfl
theorem there_blk {w : World} {B : Nat} {s : V.Sys} {x : Option Addr × Nat} (h : Blk w B (vs s x) 38) : w.there B 0 15 := fun j hj => by
  have hn : (vs s x).size = 15 := by kernel_rfl
  rw [Nat.zero_add, h.cell]
  refine ⟨?_, h.free j⟩
  rw [Array.getElem?_eq_getElem (by omega)]
  rfl
theorem aset_t (s s0 : V.Sys) (x x0 : Option Addr × Nat) : aset (vs s0 x0) 0 (vs s x).toList = vs s x := by kernel_rfl
/-- To look at the service. -/
theorem see_at {a : At} {SS : Nat → Prop} {w0 w : World} {s : V.Sys} (h : Aft a SS w0 s w) (inv : V.Inv a.li s) (hr : s.rs.length ≤ 1000000) : Calls Tryz.prog 13 #[.pointer (some ⟨a.p, 0, none⟩)] w fun e w' => ∃ x : Option Addr × Nat, e = .returned (.agg (vs s x)) ∧ Own w' (New w) 41 4 (.slice x.1 s.pods.length x.2) s.pods.length (A.cellsOf s.pods) ∧ Chg No w w' := by
  obtain ⟨rv, tv, tn, _, tx, hs⟩ := h
  have h1 := inv.pods.len
  have h2 := inv.load
  have h3 := inv.qlen
  refine (see_any hs (by omega) (by omega) hr inv.rst).mono ?_
  rintro e w'' ⟨va, c, rfl, ho, hc⟩
  exact ⟨(va, c), rfl, ho, hc⟩
/-- New, with the place of all under one name. -/
theorem new_at (hm : Said.may) (bu ini li rd : Int) (ok : P.Ok bu ini li rd) (w : World) : Calls Tryz.prog 8 #[.agg (ca bu ini li rd)] w fun e w' => ∃ a : At, e = .returned (.tuple #[.pointer (some ⟨a.p, 0, none⟩), .int .i64 0]) ∧ (a.bu = bu ∧ a.ini = ini ∧ a.li = li ∧ a.rd = rd) ∧ Aft a No w (V.new bu ini li) w' :=
  (new_any hm bu ini li rd ok w).mono fun _ _ ⟨p, g, l, q, d, h1, h2⟩ => ⟨⟨bu, ini, li, rd, p, g, l, q, d⟩, h1, ⟨rfl, rfl, rfl, rfl⟩, h2⟩
theorem no_text : (!(⟨#[]⟩ : ByteArray).toList.isEmpty) = false := by
  rw [ByteArray.toList, ByteArray.toList.loop]
  rfl
theorem vs_cells {w : World} {B : Nat} {s : V.Sys} {x : Option Addr × Nat} (h : Blk w B (vs s x) 38) : w.cell? ⟨B, 0, none⟩ = some (.int .i64 s.now) ∧ w.cell? ⟨B, 1, none⟩ = some (.int .i64 s.want) ∧ w.cell? ⟨B, 2, none⟩ = some (.bool s.ld.panic) ∧ w.cell? ⟨B, 3, none⟩ = some (.bool s.proxy) ∧ w.cell? ⟨B, 4, none⟩ = some (.slice x.1 s.pods.length x.2) ∧ w.cell? ⟨B, 5, none⟩ = some (.int .i64 s.q.length) ∧ w.cell? ⟨B, 6, none⟩ = some (.int .i64 (V.ends s.rs 2)) :=
  ⟨h.cell 0, h.cell 1, h.cell 2, h.cell 3, h.cell 4, h.cell 5, h.cell 6⟩
theorem vs_ends {w : World} {B : Nat} {s : V.Sys} {x : Option Addr × Nat} (h : Blk w B (vs s x) 38) : w.cell? ⟨B, 9, none⟩ = some (.int .i64 (V.ends s.rs 2)) ∧ w.cell? ⟨B, 10, none⟩ = some (.int .i64 (V.ends s.rs 3)) ∧ w.cell? ⟨B, 11, none⟩ = some (.int .i64 (V.ends s.rs 4)) ∧ w.cell? ⟨B, 12, none⟩ = some (.int .i64 (V.ends s.rs 5)) ∧ w.cell? ⟨B, 13, none⟩ = some (.int .i64 (V.ends s.rs 6)) :=
  ⟨h.cell 9, h.cell 10, h.cell 11, h.cell 12, h.cell 13⟩
theorem Aft.chg {a : At} {SS : Nat → Prop} {w0 w : World} {s : V.Sys} (h : Aft a SS w0 s w) : Chg SS w0 w := by
  obtain ⟨_, _, _, _, _, hs⟩ := h
  exact hs.2
theorem Aft.base {a : At} {SS : Nat → Prop} {w0 wr wk : World} {s : V.Sys} (h : Aft a SS w0 s wr) (c : Chg No wr wk) : Aft a (K.nx SS w0 wr) wk s wk := by
  obtain ⟨rv, tv, tn, htn, tx, hs⟩ := h
  exact ⟨rv, tv, tn, htn, tx, hs.base c⟩
theorem Aft.out {a : At} {w0 w1 wr wk w : World} {s s' : V.Sys} (h0 : Aft a No w1 s' wr) (c0 : Chg No w0 w1) (c : Chg No wr wk) (h : Aft a (K.nx No w1 wr) wk s w) : Chg No w0 w :=
  (c0.trans (h0.chg.trans c)).of_new (h.chg.mono fun _ _ hk => hk.1.elim False.elim fun h2 => Nat.le_trans c0.size h2)
end Go.Proofs.YtdgphoemjeakaaaGreatDoor.Y
