/- conf.Wrong, conf.May: nothing is wrong with the settings of this part's statements. Parts of a whole that own blocks apart from each other. Package metric: New, of, Put, Means, Over. Package metric: of, Put, Means, Over. Package decide: New, metric, holds. Package decide: metric, holds, Put, Over. Package decide: what Next keeps. -/
import Derived.Test.YtdgphoemjeakaaaGreatDoorQ06
import Derived.Deep.LoopGhost
import Derived.Test.YtdgphoemjeakaaaGreatDoorQ01
import Derived.Test.YtdgphoemjeakaaaGreatDoorQ05
import Derived.Test.YtdgphoemjeakaaaGreatDoorQ03
/-! conf.Wrong, conf.May: nothing is wrong with the settings of this part's statements. -/
namespace Go.Proofs.YtdgphoemjeakaaaGreatDoor.W
open Go.RowKit Go.Proofs.YtdgphoemjeakaaaGreatDoor.K Go.Proofs.YtdgphoemjeakaaaGreatDoor.P
set_option maxRecDepth 100000

theorem Vl_len (bu ini li rd : Int) (B N : Nat) : (Vl bu ini li rd B N).length = 121 := rfl
theorem Inv.all {bu ini li rd : Int} {B N : Nat} {t0 : Array Value} {w0 : World} {L : Nat → Bool} {a : Act} {w : World} (h : Inv bu ini li rd B N t0 w0 L a w) (hs : t0.size = 141) (hl : ∀ i, i < 121 → L i = true) :
    a = ⟨(t0.toList.take 11 ++ (Vl bu ini li rd B N ++ t0.toList.drop 132)).toArray, []⟩ := by
  obtain ⟨tm, df⟩ := a
  have h1 : df = [] := h.ds
  have h2 : tm = (t0.toList.take 11 ++ (Vl bu ini li rd B N ++ t0.toList.drop 132)).toArray := by
    apply Array.ext_getElem?
    intro j
    have h3 := h.tm j
    dsimp only at h3
    have e0 : ∀ l : List Value, (l.toArray)[j]? = l[j]? := fun l => by simp
    rw [h3, e0, ← Array.getElem?_toList]
    have hL := Vl_len bu ini li rd B N
    have hs' : t0.toList.length = 141 := by simpa using hs
    by_cases h11 : j < 11
    · rw [if_neg (by omega), List.getElem?_append_left (by rw [List.length_take]; omega), List.getElem?_take, if_pos h11]
    · rw [List.getElem?_append_right (by rw [List.length_take]; omega), List.length_take, hs']
      by_cases h131 : j < 132
      · rw [if_pos ⟨by omega, hl _ (by omega)⟩, List.getElem?_append_left (by omega)]
        unfold V
        rw [show min 11 141 = 11 from rfl, List.getD_eq_getElem?_getD, List.getElem?_eq_getElem (by omega)]
        rfl
      · rw [h.lb _ (by omega), if_neg (by simp), List.getElem?_append_right (by omega), List.getElem?_drop, hL]
        rw [show 132 + (j - min 11 141 - 121) = j by omega]
  rw [h1, h2]
theorem parts_at : ∀ k, k < 20 → (∃ x, parts[k * 2]? = some (.string x)) ∧ parts[k * 2 + 1]? = some (.bool true)
  | 0, _ => ⟨⟨_, rfl⟩, rfl⟩
  | 1, _ => ⟨⟨_, rfl⟩, rfl⟩
  | 2, _ => ⟨⟨_, rfl⟩, rfl⟩
  | 3, _ => ⟨⟨_, rfl⟩, rfl⟩
  | 4, _ => ⟨⟨_, rfl⟩, rfl⟩
  | 5, _ => ⟨⟨_, rfl⟩, rfl⟩
  | 6, _ => ⟨⟨_, rfl⟩, rfl⟩
  | 7, _ => ⟨⟨_, rfl⟩, rfl⟩
  | 8, _ => ⟨⟨_, rfl⟩, rfl⟩
  | 9, _ => ⟨⟨_, rfl⟩, rfl⟩
  | 10, _ => ⟨⟨_, rfl⟩, rfl⟩
  | 11, _ => ⟨⟨_, rfl⟩, rfl⟩
  | 12, _ => ⟨⟨_, rfl⟩, rfl⟩
  | 13, _ => ⟨⟨_, rfl⟩, rfl⟩
  | 14, _ => ⟨⟨_, rfl⟩, rfl⟩
  | 15, _ => ⟨⟨_, rfl⟩, rfl⟩
  | 16, _ => ⟨⟨_, rfl⟩, rfl⟩
  | 17, _ => ⟨⟨_, rfl⟩, rfl⟩
  | 18, _ => ⟨⟨_, rfl⟩, rfl⟩
  | 19, _ => ⟨⟨_, rfl⟩, rfl⟩
  | n + 20, h => absurd h (by omega)

theorem wp_wrong {id : Nat} {Q : Exit → Act → World → Prop} {bu ini li rd : Int} {B : Nat} {t0 : Array Value} {w1 : World} (ok : P.Ok bu ini li rd) (hs : t0.size = 141) (h1 : t0[1]? = some (.pointer (some ⟨B, 0, none⟩))) (h3 : t0[3]? = some (.int .i64 100)) (hb : Blk w1 B (ca bu ini li rd) 24)
    (hend : ∀ w', Chg No w1 w' → Blk w' w1.heap.size parts 126 → Q .normal ⟨(t0.toList.take 11 ++ (Vl bu ini li rd B w1.heap.size ++ t0.toList.drop 132)).toArray, []⟩ w') : (Code.region id opsW true).wp Tryz.prog Q ⟨t0, []⟩ w1 := by
  refine wp_region_any rfl (wpAny_inv (ops := opsW) (Inv bu ini li rd B w1.heap.size t0 w1) (acyc_spec opsW_acyc) (fun L i o a w ho hL hd hI => step_all i ?_ bu ini li rd _ _ _ _ L a w _ o ok ho hL hd hI) (fun L a w hl hI => ?_) _ _ _ _ ?_ ?_ ?_)
  · have := (Array.getElem?_eq_some_iff.1 ho).1
    rwa [opsW_size] at this
  · have hl' : ∀ i, i < 121 → L i = true := fun i hi => hl i (by rw [opsW_size]; exact hi)
    rw [hI.all hs hl']
    exact hend w hI.ch (hI.post (hl' 118 (by omega)))
  · simp
  · rw [Array.toList_replicate, List.count_replicate_self]; exact Nat.le_refl _
  · have h0 : ∀ j, (Array.replicate opsW.size false).getD j false = false := fun j => by
      rw [opsW_size, Array.getD_eq_getD_getElem?, Array.getElem?_replicate]
      split <;> rfl
    refine ⟨rfl, hs, fun k _ => h0 k, h1, h3, fun j => ?_, (Chg.refl No w1).drew, hb, fun _ => rfl, fun h => ?_⟩
    · rw [h0, if_neg (by simp)]
    · rw [h0] at h; cases h

set_option maxHeartbeats 2000000 in
set_option maxRecDepth 1000000 in
theorem wrong_no (bu ini li rd : Int) (ok : P.Ok bu ini li rd) (w : World) : Calls Tryz.prog 39 #[.agg (ca bu ini li rd)] w fun e w' => e = .returned (.string ⟨#[]⟩) ∧ Chg No w w' := by
  go_enter Tryz.func39, Tryz.ntmps39
  go_wp2_with fail
  have hB : Blk (w.alloc (.cells (ca bu ini li rd) 24)) w.heap.size (ca bu ini li rd) 24 := Blk.new _ _ _
  have HC : Hid (Chg No w (w.alloc (.cells (ca bu ini li rd) 24))) := (Chg.refl No w).alloc _
  generalize w.alloc (.cells (ca bu ini li rd) 24) = w1 at *
  generalize w.heap.size = B at *
  simp only [List.append_eq, List.cons_append, List.nil_append]
  refine wp_wrong ok rfl rfl rfl hB (fun w2 hc hp => ?_)
  generalize w1.heap.size = N at *
  simp only [Vl, List.take_succ_cons, List.take_zero, List.drop_succ_cons, List.drop_zero, List.cons_append, List.nil_append]
  have HC2 := Lib.hid (HC.out.trans hc)
  have HP := Lib.hid hp
  clear hB HC hc hp
  go_wp2_with fail
  all_goals
    go_loopw [2, 131] (fun r i wr => ∃ k : Nat, k ≤ 20 ∧ r = .string ⟨#[]⟩ ∧ i = .int .i64 k ∧ Hid (Chg No w wr) ∧ Hid (Blk wr N parts 126)) (fun _ i _ => 20 - (intOf i).toNat)
    case atStart => exact ⟨0, Nat.zero_le _, rfl, rfl, HC2.out, HP.out⟩
    case round =>
      obtain ⟨k, hk, rfl, rfl, HC, HB⟩ := hrel
      by_cases hlt : k < 20
      · obtain ⟨⟨v, hv⟩, hb⟩ := parts_at k hlt
        have e0 : wr.cell? ⟨N, k * 2, none⟩ = some (.string v) := by rw [Blk.cell HB.out]; exact hv
        have e1 : wr.cell? ⟨N, k * 2 + 1, none⟩ = some (.bool true) := by rw [Blk.cell HB.out]; exact hb
        go_wp2_with fail
        go_roundw
        case rel => exact ⟨k + 1, by omega, rfl, by go_num, HC.out.alloc _, HB.out.alloc _⟩
        case measure => simp [intOf]; omega
      · obtain rfl : k = 20 := by omega
        go_wp2_with fail
        go_ret
        exact ⟨rfl, HC.out⟩
theorem wrong_any {bu ini li rd : Int} (ok : P.Ok bu ini li rd) (w : World) : Calls Tryz.prog 39 #[.agg (ca bu ini li rd)] w fun e w' => e = .returned (.string ⟨#[]⟩) ∧ Chg No w w' := wrong_no bu ini li rd ok w

set_option maxHeartbeats 1000000 in
theorem may_any : P.Said.may := by
  intro bu ini li rd ok w
  go_enter Tryz.func16, Tryz.ntmps16
  go_wp2_with (go_at_call 39; refine (wrong_no bu ini li rd ok _).mono ?_; rintro e w' ⟨rfl, HC⟩)
  go_ret
  exact ⟨rfl, ((Chg.refl No w).alloc _).trans HC⟩
end Go.Proofs.YtdgphoemjeakaaaGreatDoor.W

/-! Parts of a whole that own blocks apart from each other. -/
namespace Go.Proofs.YtdgphoemjeakaaaGreatDoor.U
open Go.RowKit Go.Proofs.YtdgphoemjeakaaaGreatDoor.K

/-- Something that lies in blocks of its own. -/
abbrev Rep := World → (Nat → Prop) → Prop
/-- It holds as long as its blocks are as they were. -/
structure Good (R : Rep) : Prop where
  chg : ∀ {w w' : World} {S T : Nat → Prop}, R w S → Chg T w w' → (∀ k, S k → T k → False) → R w' S
  bd : ∀ {w : World} {S : Nat → Prop}, R w S → ∀ k, S k → k < w.heap.size
/-- One block. -/
def One (p : Nat) (cs : Array Value) (t : TypeId) : Rep := fun w S => (∀ k, S k → k < w.heap.size) ∧ S p ∧ Blk w p cs t
theorem One.good (p : Nat) (cs : Array Value) (t : TypeId) : Good (One p cs t) :=
  ⟨fun h c hd => ⟨fun k hk => Nat.lt_of_lt_of_le (h.1 k hk) c.size, h.2.1, h.2.2.chg c (hd p h.2.1)⟩, fun h => h.1⟩
/-- Nothing at all. -/
def Nil : Rep := fun w S => ∀ k, S k → k < w.heap.size
theorem Nil.good : Good Nil := ⟨fun h c _ k hk => Nat.lt_of_lt_of_le (h k hk) c.size, fun h => h⟩
/-- Two, apart from each other. -/
def Two (R Q : Rep) : Rep := fun w S => (∀ k, S k → k < w.heap.size) ∧ ∃ A B : Nat → Prop, (∀ k, A k → S k) ∧ (∀ k, B k → S k) ∧ (∀ k, A k → B k → False) ∧ R w A ∧ Q w B

section
variable {R R' Q Q' : Rep} {w w' : World} {S T : Nat → Prop}
theorem Two.good (hR : Good R) (hQ : Good Q) : Good (Two R Q) :=
  ⟨fun ⟨hb, A, B, hA, hB, hAB, r, q⟩ c hd => ⟨fun k hk => Nat.lt_of_lt_of_le (hb k hk) c.size, A, B, hA, hB, hAB, hR.chg r c (fun k h => hd k (hA k h)), hQ.chg q c (fun k h => hd k (hB k h))⟩, fun h => h.1⟩
theorem Good.kept (hR : Good R) (h : R w S) (c : Chg No w w') : R w' S := hR.chg h c fun _ _ h => h
/-- The first part may be turned by itself. -/
theorem Two.left (hQ : Good Q) (h : Two R Q w S) : ∃ A : Nat → Prop, R w A ∧ (∀ k, A k → S k) ∧ ∀ (R' : Rep) (w' : World), R' w' (K.nx A w w') → Chg A w w' → Two R' Q w' (K.nx S w w') ∧ Chg S w w' := by
  obtain ⟨hb, A, B, hA, hB, hAB, r, q⟩ := h
  refine ⟨A, r, hA, fun R' w' h c => ⟨⟨fun k hk => hk.2, K.nx A w w', B, fun k hk => ⟨hk.1.imp_left (hA k), hk.2⟩, fun k hk => ⟨.inl (hB k hk), Nat.lt_of_lt_of_le (hQ.bd q k hk) c.size⟩, fun k h1 h2 => ?_, h, hQ.chg q c fun k h1 h2 => hAB k h2 h1⟩, c.mono fun k _ h => hA k h⟩⟩
  rcases h1.1 with h3 | h3
  · exact hAB k h3 h2
  · have := hQ.bd q k h2; omega
/-- The second part may be turned by itself. -/
theorem Two.right (hR : Good R) (h : Two R Q w S) : ∃ B : Nat → Prop, Q w B ∧ (∀ k, B k → S k) ∧ ∀ (Q' : Rep) (w' : World), Q' w' (K.nx B w w') → Chg B w w' → Two R Q' w' (K.nx S w w') ∧ Chg S w w' := by
  obtain ⟨hb, A, B, hA, hB, hAB, r, q⟩ := h
  refine ⟨B, q, hB, fun Q' w' h c => ⟨⟨fun k hk => hk.2, A, K.nx B w w', fun k hk => ⟨.inl (hA k hk), Nat.lt_of_lt_of_le (hR.bd r k hk) c.size⟩, fun k hk => ⟨hk.1.imp_left (hB k), hk.2⟩, fun k h1 h2 => ?_, hR.chg r c fun k h1 h2 => hAB k h1 h2, h⟩, c.mono fun k _ h => hB k h⟩⟩
  rcases h2.1 with h3 | h3
  · exact hAB k h1 h3
  · have := hR.bd r k h1; omega
/-- What is new is apart from what was. -/
theorem Two.mk_new (hR : Good R) (h : R w S) (hc : Chg No w w') (hq : Q w' (fun k => w.heap.size ≤ k ∧ k < w'.heap.size)) : Two R Q w' (K.nx S w w') :=
  ⟨fun k hk => hk.2, S, _, fun k hk => ⟨.inl hk, Nat.lt_of_lt_of_le (hR.bd h k hk) hc.size⟩, fun k hk => ⟨.inr hk.1, hk.2⟩, fun k h1 h2 => by have := hR.bd h k h1; omega, hR.kept h hc, hq⟩
end
/-- Larger blocks hold it too. -/
structure Wide (R : Rep) : Prop where
  mono : ∀ {w : World} {S T : Nat → Prop}, R w S → (∀ k, S k → T k) → (∀ k, T k → k < w.heap.size) → R w T
theorem One.wide (p : Nat) (cs : Array Value) (t : TypeId) : Wide (One p cs t) := ⟨fun h hs hb => ⟨hb, hs p h.2.1, h.2.2⟩⟩
theorem Nil.wide : Wide Nil := ⟨fun _ _ hb => hb⟩
theorem Two.wide {R Q : Rep} : Wide (Two R Q) := ⟨fun ⟨_, A, B, hA, hB, h⟩ hs hb => ⟨hb, A, B, fun k hk => hs k (hA k hk), fun k hk => hs k (hB k hk), h⟩⟩
theorem Wide.nx {R : Rep} {w w' : World} {S : Nat → Prop} (hW : Wide R) (hG : Good R) (h : R w S) (c : Chg No w w') : R w' (K.nx S w w') := hW.mono (hG.kept h c) (fun k hk => ⟨.inl hk, Nat.lt_of_lt_of_le (hG.bd h k hk) c.size⟩) fun _ hk => hk.2
theorem Wide.nx' {R : Rep} {w w' : World} {S : Nat → Prop} (hW : Wide R) (hG : Good R) (h : R w' S) : R w' (K.nx S w w') := hW.mono h (fun k hk => ⟨.inl hk, hG.bd h k hk⟩) fun _ hk => hk.2
theorem Wide.nn {R : Rep} {w w' w'' : World} {S : Nat → Prop} (hW : Wide R) (h : R w'' (K.nx (K.nx S w w') w' w'')) (c : w.heap.size ≤ w'.heap.size) : R w'' (K.nx S w w'') := hW.mono h (fun _ hk => K.nx_nx c hk) fun _ hk => hk.2
theorem One.set {p : Nat} {cs : Array Value} {t : TypeId} {w : World} {S : Nat → Prop} (h : One p cs t w S) (j : Nat) (v : Value) : One p (cs.setIfInBounds j v) t (w.setCell ⟨p, j, none⟩ v) (K.nx S w (w.setCell ⟨p, j, none⟩ v)) ∧ Chg S w (w.setCell ⟨p, j, none⟩ v) := by
  have hs : (w.setCell ⟨p, j, none⟩ v).heap.size = w.heap.size := by simp [World.setCell]
  exact ⟨⟨fun k hk => hk.2, ⟨.inl h.2.1, by rw [hs]; exact h.1 p h.2.1⟩, h.2.2.set j v⟩, (Chg.refl S w).set (fun _ => h.2.1) v⟩
end Go.Proofs.YtdgphoemjeakaaaGreatDoor.U

/-! Package metric: New, of, Put, Means, Over. -/
namespace Go.Proofs.YtdgphoemjeakaaaGreatDoor.Me
open Go.RowKit Go.Proofs.YtdgphoemjeakaaaGreatDoor.K Go.Proofs.YtdgphoemjeakaaaGreatDoor.P Go.Proofs.YtdgphoemjeakaaaGreatDoor.U Go.Proofs.YtdgphoemjeakaaaGreatDoor.R
set_option maxRecDepth 100000

/-- A ring, as something that lies in blocks. -/
def RingR (p : Nat) (bs : List Bk) (window n newest : Int) : Rep := fun w S => Ring w S p bs window n newest
theorem RingR.good (p : Nat) (bs : List Bk) (window n newest : Int) : U.Good (RingR p bs window n newest) :=
  ⟨fun h c hd => Ring.chg h c hd, fun ⟨_, _, h, _⟩ => h.bd⟩
theorem RingR.wide (p : Nat) (bs : List Bk) (window n newest : Int) : U.Wide (RingR p bs window n newest) :=
  ⟨fun h hs hb => Ring.mono h (fun k _ h => hs k h) hb⟩
/-- Settings, and what follows them, in cells. -/
def mw (cs : Array Value) (l : List Value) : Array Value := cs ++ l.toArray
/-- A struct that is built. -/
noncomputable def bld (t : TypeId) (parts : Array (Nat × Value)) (w : World) : Result Next := (do pure (.value (← Instr.build t parts)) : Sem Next).run Tryz.prog w
@[go_sem ↓] theorem exec132 (ρ : Operand → Value) (dst : Option Tmp) (fs : Array (Nat × Operand)) (ty : TypeId) (pos : String) (after : Array Edge) (gd : Option (Nat × Bool)) (w : World) : (execOp ρ { dst := dst, op := .build 132 fs, type := ty, pos := pos, after := after, guard := gd }).run Tryz.prog w = bld 132 (fs.map fun x => (x.1, ρ x.2)) w := rfl
@[go_sem ↓] theorem exec94 (ρ : Operand → Value) (dst : Option Tmp) (fs : Array (Nat × Operand)) (ty : TypeId) (pos : String) (after : Array Edge) (gd : Option (Nat × Bool)) (w : World) : (execOp ρ { dst := dst, op := .build 94 fs, type := ty, pos := pos, after := after, guard := gd }).run Tryz.prog w = bld 94 (fs.map fun x => (x.1, ρ x.2)) w := rfl
@[go_sem ↓] theorem exec66 (ρ : Operand → Value) (dst : Option Tmp) (fs : Array (Nat × Operand)) (ty : TypeId) (pos : String) (after : Array Edge) (gd : Option (Nat × Bool)) (w : World) : (execOp ρ { dst := dst, op := .build 66 fs, type := ty, pos := pos, after := after, guard := gd }).run Tryz.prog w = bld 66 (fs.map fun x => (x.1, ρ x.2)) w := rfl
@[go_sem] theorem bld132 (bu ini li rd : Int) (t t' : TypeId) (x x' : Value) (w : World) : bld 132 #[(0, .agg (ca bu ini li rd)), (1, .agg #[.iface t x, .iface t' x'])] w = .ok (.value (.agg (mw (ca bu ini li rd) [.iface t x, .iface t' x', .bool false]))) w := by
  kernel_rfl
@[go_sem] theorem bld94 (bu ini li rd : Int) (a : Addr) (n c : Nat) (x y : Int) (w : World) : bld 94 #[(0, .agg (ca bu ini li rd)), (1, .slice (some a) n c), (2, .agg #[.int .i64 x, .int .i64 y])] w = .ok (.value (.agg (mw (ca bu ini li rd) [.slice (some a) n c, .int .i64 x, .int .i64 y, .int .i64 0]))) w := by
  kernel_rfl
/-- The cells of a metric. -/
def mc (bu ini li rd : Int) (r0 r1 : Nat) : Array Value := mw (ca bu ini li rd) [.iface 128 (.pointer (some ⟨r0, 0, none⟩)), .iface 128 (.pointer (some ⟨r1, 0, none⟩)), .bool false]
theorem mc_20 (bu ini li rd : Int) (r0 r1 : Nat) : (mc bu ini li rd r0 r1)[20]? = some (.iface 128 (.pointer (some ⟨r0, 0, none⟩))) := rfl
theorem mc_21 (bu ini li rd : Int) (r0 r1 : Nat) : (mc bu ini li rd r0 r1)[21]? = some (.iface 128 (.pointer (some ⟨r1, 0, none⟩))) := rfl
theorem mc_22 (bu ini li rd : Int) (r0 r1 : Nat) : (mc bu ini li rd r0 r1)[22]? = some (.bool false) := rfl
/-- A metric: both windows' values; when the last came. -/
def Metric (bu ini li rd : Int) (m : Nat) (b0 b1 : List Bk) (newest : Int) : Rep := fun w S => ∃ r0 r1, Two (One m (mc bu ini li rd r0 r1) 132) (Two (RingR r0 b0 60 60 newest) (RingR r1 b1 6 6 newest)) w S
theorem Metric.good (bu ini li rd : Int) (m : Nat) (b0 b1 : List Bk) (newest : Int) : U.Good (Metric bu ini li rd m b0 b1 newest) :=
  ⟨fun ⟨r0, r1, h⟩ c hd => ⟨r0, r1, (Two.good (One.good _ _ _) (Two.good (RingR.good _ _ _ _ _) (RingR.good _ _ _ _ _))).chg h c hd⟩, fun ⟨_, _, h⟩ => h.1⟩
theorem Metric.wide (bu ini li rd : Int) (m : Nat) (b0 b1 : List Bk) (newest : Int) : U.Wide (Metric bu ini li rd m b0 b1 newest) :=
  ⟨fun ⟨r0, r1, h⟩ hs hb => ⟨r0, r1, Two.wide.mono h hs hb⟩⟩

theorem keepA {w : World} {B : Nat} {bu ini li rd : Int} (o : Obj) (h : Hid (Blk w B (ca bu ini li rd) 24) ∧ rowOf w B 0 20 = some (.agg (ca bu ini li rd)) ∧ w.cell? ⟨B, 2, none⟩ = some (.int .i64 60) ∧ w.cell? ⟨B, 3, none⟩ = some (.int .i64 6) ∧ w.cell? ⟨B, 4, none⟩ = some (.int .i64 1)) :
    Hid (Blk (w.alloc o) B (ca bu ini li rd) 24) ∧ rowOf (w.alloc o) B 0 20 = some (.agg (ca bu ini li rd)) ∧ (w.alloc o).cell? ⟨B, 2, none⟩ = some (.int .i64 60) ∧ (w.alloc o).cell? ⟨B, 3, none⟩ = some (.int .i64 6) ∧ (w.alloc o).cell? ⟨B, 4, none⟩ = some (.int .i64 1) := by
  have hb : Blk (w.alloc o) B (ca bu ini li rd) 24 := h.1.out.alloc o
  have hr := rowOf_blk hb
  rw [ca_size] at hr
  exact ⟨hb, hr, cell_ca hb 2, cell_ca hb 3, cell_ca hb 4⟩

/-- The cells of a new ring. -/
abbrev rc (n : Int) : Array Value := #[.slice none 0 0, .int .i64 n, .int .i64 1, .int .i64 n, .int .i64 (-1), .bool false]
theorem new_rep (bu ini li rd : Int) (w : World) : Metric bu ini li rd (w.heap.size + 2) [] [] (-1) (((w.alloc (.cells (rc 60) 180)).alloc (.cells (rc 6) 180)).alloc (.cells (mc bu ini li rd w.heap.size (w.heap.size + 1)) 132)) (fun k => w.heap.size ≤ k ∧ k < w.heap.size + 3) := by
  have s1 : (w.alloc (.cells (rc 60) 180)).heap.size = w.heap.size + 1 := by simp
  have s2 : ((w.alloc (.cells (rc 60) 180)).alloc (.cells (rc 6) 180)).heap.size = w.heap.size + 2 := by simp
  have s3 : (((w.alloc (.cells (rc 60) 180)).alloc (.cells (rc 6) 180)).alloc (.cells (mc bu ini li rd w.heap.size (w.heap.size + 1)) 132)).heap.size = w.heap.size + 3 := by simp
  have h1 := R.new_rep w 60
  have h2 := R.new_rep (w.alloc (.cells (rc 60) 180)) 6
  rw [s1] at h2
  have h3 := Blk.new ((w.alloc (.cells (rc 60) 180)).alloc (.cells (rc 6) 180)) (mc bu ini li rd w.heap.size (w.heap.size + 1)) 132
  rw [s2] at h3
  refine ⟨w.heap.size, w.heap.size + 1, fun k hk => by rw [s3]; exact hk.2, fun k => k = w.heap.size + 2, fun k => k = w.heap.size ∨ k = w.heap.size + 1, fun k hk => by omega, fun k hk => by omega, fun k h h' => by omega, ⟨fun k hk => by omega, rfl, h3⟩, fun k hk => by omega, fun k => k = w.heap.size, fun k => k = w.heap.size + 1, fun k hk => .inl hk, fun k hk => .inr hk, fun k h h' => by omega, ?_, ?_⟩
  · exact (RingR.good _ _ _ _ _).kept h1 (((Chg.refl No _).alloc _).alloc _)
  · exact (RingR.good _ _ _ _ _).kept h2 ((Chg.refl No _).alloc _)

set_option maxHeartbeats 1000000 in
theorem new_any (hm : Said.may) (bu ini li rd : Int) (ok : P.Ok bu ini li rd) (w : World) : Calls Tryz.prog 40 #[.agg (ca bu ini li rd)] w fun e w' => ∃ m, e = .returned (.pointer (some ⟨m, 0, none⟩)) ∧ Metric bu ini li rd m [] [] (-1) w' (fun k => w.heap.size ≤ k ∧ k < w'.heap.size) ∧ Chg No w w' := by
  have HM := Lib.hid (hm bu ini li rd ok)
  clear hm ok
  go_enter Tryz.func40, Tryz.ntmps40
  go_wp2_with fail
  have hB : Blk (w.alloc (.cells (ca bu ini li rd) 24)) w.heap.size (ca bu ini li rd) 24 := Blk.new _ _ _
  have HC : Hid (Chg No w (w.alloc (.cells (ca bu ini li rd) 24))) := (Chg.refl No w).alloc _
  generalize w.alloc (.cells (ca bu ini li rd) 24) = w1 at *
  generalize w.heap.size = B at *
  have hr := rowOf_blk hB
  rw [ca_size] at hr
  go_wp2_with (first | (go_at_call 16; refine (HM.out _).mono ?_; rintro e w2 ⟨rfl, hc⟩))
  have hB2 := hB.kept hc
  have hr2 := rowOf_blk hB2
  rw [ca_size] at hr2
  have HC2 := Lib.hid (HC.out.trans hc)
  clear hB hr hc HC HM
  have hS : Hid (Blk w2.drew B (ca bu ini li rd) 24) ∧ rowOf w2.drew B 0 20 = some (.agg (ca bu ini li rd)) ∧ w2.drew.cell? ⟨B, 2, none⟩ = some (.int .i64 60) ∧ w2.drew.cell? ⟨B, 3, none⟩ = some (.int .i64 6) ∧ w2.drew.cell? ⟨B, 4, none⟩ = some (.int .i64 1) := ⟨hB2, hr2, cell_ca hB2 2, cell_ca hB2 3, cell_ca hB2 4⟩
  go_region_held3 (fun w' => Hid (Blk w' B (ca bu ini li rd) 24) ∧ rowOf w' B 0 20 = some (.agg (ca bu ini li rd)) ∧ w'.cell? ⟨B, 2, none⟩ = some (.int .i64 60) ∧ w'.cell? ⟨B, 3, none⟩ = some (.int .i64 6) ∧ w'.cell? ⟨B, 4, none⟩ = some (.int .i64 1)) (first | exact hS | assumption | exact keepA _ (by assumption)) (first | (go_at_call 73; refine (R.new_any _ _ (by omega) (by omega)).mono ?_; rintro e w' ⟨rfl, rfl⟩))
  have HN := Lib.hid ((Metric.good bu ini li rd _ [] [] (-1)).kept (new_rep bu ini li rd w2) ((Chg.refl No _).drew))
  have hsz := HC2.out.size
  go_wp2
  go_ret
  refine ⟨w2.heap.size + 2, rfl, (Metric.wide bu ini li rd _ [] [] (-1)).mono HN.out (fun k hk => ⟨by omega, ?_⟩) (fun k hk => hk.2), ((HC2.out.alloc _).alloc _).alloc _ |>.drew⟩
  rw [show (World.heap (World.drew _)) = World.heap _ from rfl]
  simp
  omega
end Go.Proofs.YtdgphoemjeakaaaGreatDoor.Me

/-! Package metric: of, Put, Means, Over. -/
namespace Go.Proofs.YtdgphoemjeakaaaGreatDoor.Me
open Go.RowKit Go.Proofs.YtdgphoemjeakaaaGreatDoor.K Go.Proofs.YtdgphoemjeakaaaGreatDoor.P Go.Proofs.YtdgphoemjeakaaaGreatDoor.U Go.Proofs.YtdgphoemjeakaaaGreatDoor.R

set_option maxHeartbeats 1000000 in
theorem of_0 (bu ini li rd : Int) (m r0 r1 : Nat) (w : World) (h : Blk w m (mc bu ini li rd r0 r1) 132) : Calls Tryz.prog 105 #[.pointer (some ⟨m, 0, none⟩), .int .i64 0] w fun e w' => e = .returned (.pointer (some ⟨r0, 0, none⟩)) ∧ Chg No w w' := by
  have c := Blk.cell h 20
  rw [mc_20] at c
  have H := Lib.hid h
  clear h
  go_enter Tryz.func105, Tryz.ntmps105
  go_wp2
  go_ret
  exact ⟨rfl, Chg.refl _ _⟩
set_option maxHeartbeats 1000000 in
theorem of_1 (bu ini li rd : Int) (m r0 r1 : Nat) (w : World) (h : Blk w m (mc bu ini li rd r0 r1) 132) : Calls Tryz.prog 105 #[.pointer (some ⟨m, 0, none⟩), .int .i64 1] w fun e w' => e = .returned (.pointer (some ⟨r1, 0, none⟩)) ∧ Chg No w w' := by
  have c := Blk.cell h 21
  rw [mc_21] at c
  have H := Lib.hid h
  clear h
  go_enter Tryz.func105, Tryz.ntmps105
  go_wp2
  go_ret
  exact ⟨rfl, Chg.refl _ _⟩

/-- A value at a time is put into a window. -/
def putB (n t v : Int) (bs : List Bk) : List Bk := (bs.filter fun b => !decide (n ≤ t - b.1)) ++ [(t, v)]
/-- Times and values that a window may hold. -/
def Fine (newest : Int) (bs : List Bk) : Prop := bs.length ≤ 1000 ∧ ∀ x, x ∈ bs → (0 ≤ x.1 ∧ x.1 ≤ newest) ∧ (0 ≤ x.2 ∧ x.2 ≤ 1125899906842624)
/-- A metric in its parts. -/
def M2 (bu ini li rd : Int) (m r0 r1 : Nat) (b0 b1 : List Bk) (n0 n1 : Int) : Rep := Two (One m (mc bu ini li rd r0 r1) 132) (Two (RingR r0 b0 60 60 n0) (RingR r1 b1 6 6 n1))
theorem M2.good (bu ini li rd : Int) (m r0 r1 : Nat) (b0 b1 : List Bk) (n0 n1 : Int) : U.Good (M2 bu ini li rd m r0 r1 b0 b1 n0 n1) := Two.good (One.good _ _ _) (Two.good (RingR.good _ _ _ _ _) (RingR.good _ _ _ _ _))
theorem M2.wide (bu ini li rd : Int) (m r0 r1 : Nat) (b0 b1 : List Bk) (n0 n1 : Int) : U.Wide (M2 bu ini li rd m r0 r1 b0 b1 n0 n1) := Two.wide

section
variable {bu ini li rd : Int} {m r0 r1 : Nat} {b0 b1 : List Bk} {n0 n1 : Int} {w : World} {S : Nat → Prop}
theorem M2.blk (h : M2 bu ini li rd m r0 r1 b0 b1 n0 n1 w S) : Blk w m (mc bu ini li rd r0 r1) 132 := by
  obtain ⟨A, h1, _⟩ := Two.left (Two.good (RingR.good _ _ _ _ _) (RingR.good _ _ _ _ _)) h
  exact h1.2.2
theorem put_0 (h : M2 bu ini li rd m r0 r1 b0 b1 n0 n1 w S) (f : Fine n0 b0) (t val : Int) (h0 : -1 ≤ n0) (t0 : n0 < t) (t1 : t ≤ 1099511627776) (v0 : 0 ≤ val) (v1 : val ≤ 1125899906842624) :
    Calls Tryz.prog 129 #[.pointer (some ⟨r0, 0, none⟩), .int .i64 t, .int .i64 val] w fun e w' => e = .returned (.int .i64 0) ∧ M2 bu ini li rd m r0 r1 (putB 60 t val b0) b1 t n1 w' (K.nx S w w') ∧ Chg S w w' := by
  obtain ⟨B, hq, _, back⟩ := Two.right (One.good _ _ _) h
  obtain ⟨A, hr, _, back2⟩ := Two.left (RingR.good _ _ _ _ _) hq
  obtain ⟨v, es, hv, he⟩ := hr
  subst he
  obtain ⟨f1, f2⟩ := f
  rw [List.length_map] at f1
  refine (put_any w A r0 v es 60 60 n0 t val hv (by omega) (fun x hx => (f2 x.2 (List.mem_map.2 ⟨x, hx, rfl⟩)).1) h0 t0 t1 v0 v1 (by omega)).mono ?_
  rintro e w' ⟨rfl, hr', hc⟩
  obtain ⟨g1, g2⟩ := back2 (RingR r0 (putB 60 t val (es.map Prod.snd)) 60 60 t) w' hr' hc
  obtain ⟨g3, g4⟩ := back _ w' g1 g2
  exact ⟨rfl, g3, g4⟩
theorem put_1 (h : M2 bu ini li rd m r0 r1 b0 b1 n0 n1 w S) (f : Fine n1 b1) (t val : Int) (h0 : -1 ≤ n1) (t0 : n1 < t) (t1 : t ≤ 1099511627776) (v0 : 0 ≤ val) (v1 : val ≤ 1125899906842624) :
    Calls Tryz.prog 129 #[.pointer (some ⟨r1, 0, none⟩), .int .i64 t, .int .i64 val] w fun e w' => e = .returned (.int .i64 0) ∧ M2 bu ini li rd m r0 r1 b0 (putB 6 t val b1) n0 t w' (K.nx S w w') ∧ Chg S w w' := by
  obtain ⟨B, hq, _, back⟩ := Two.right (One.good _ _ _) h
  obtain ⟨A, hr, _, back2⟩ := Two.right (RingR.good _ _ _ _ _) hq
  obtain ⟨v, es, hv, he⟩ := hr
  subst he
  obtain ⟨f1, f2⟩ := f
  rw [List.length_map] at f1
  refine (put_any w A r1 v es 6 6 n1 t val hv (by omega) (fun x hx => (f2 x.2 (List.mem_map.2 ⟨x, hx, rfl⟩)).1) h0 t0 t1 v0 v1 (by omega)).mono ?_
  rintro e w' ⟨rfl, hr', hc⟩
  obtain ⟨g1, g2⟩ := back2 (RingR r1 (putB 6 t val (es.map Prod.snd)) 6 6 t) w' hr' hc
  obtain ⟨g3, g4⟩ := back _ w' g1 g2
  exact ⟨rfl, g3, g4⟩
theorem mean_0 (h : M2 bu ini li rd m r0 r1 b0 b1 n0 n1 w S) (f : Fine n0 b0) (t : Int) (h0 : n0 ≤ t) (t0 : 0 ≤ t) (t1 : t ≤ 1099511627776) :
    Calls Tryz.prog 133 #[.pointer (some ⟨r0, 0, none⟩), .int .i64 t] w fun e w' => e = .returned (.int .i64 (meanB 60 t b0)) ∧ M2 bu ini li rd m r0 r1 b0 b1 n0 n1 w' (K.nx S w w') ∧ Chg S w w' := by
  obtain ⟨B, hq, _, back⟩ := Two.right (One.good _ _ _) h
  obtain ⟨A, hr, _, back2⟩ := Two.left (RingR.good _ _ _ _ _) hq
  refine (mean_any w A r0 b0 60 60 n0 t hr f.1 (fun x hx => ⟨⟨(f.2 x hx).1.1, by have := (f.2 x hx).1.2; omega⟩, (f.2 x hx).2⟩) t0 t1).mono ?_
  rintro e w' ⟨rfl, hr', hc⟩
  obtain ⟨g1, g2⟩ := back2 (RingR r0 b0 60 60 n0) w' ((RingR.wide _ _ _ _ _).nx' (RingR.good _ _ _ _ _) hr') hc
  obtain ⟨g3, g4⟩ := back _ w' g1 g2
  exact ⟨rfl, g3, g4⟩
theorem mean_1 (h : M2 bu ini li rd m r0 r1 b0 b1 n0 n1 w S) (f : Fine n1 b1) (t : Int) (h0 : n1 ≤ t) (t0 : 0 ≤ t) (t1 : t ≤ 1099511627776) :
    Calls Tryz.prog 133 #[.pointer (some ⟨r1, 0, none⟩), .int .i64 t] w fun e w' => e = .returned (.int .i64 (meanB 6 t b1)) ∧ M2 bu ini li rd m r0 r1 b0 b1 n0 n1 w' (K.nx S w w') ∧ Chg S w w' := by
  obtain ⟨B, hq, _, back⟩ := Two.right (One.good _ _ _) h
  obtain ⟨A, hr, _, back2⟩ := Two.right (RingR.good _ _ _ _ _) hq
  refine (mean_any w A r1 b1 6 6 n1 t hr f.1 (fun x hx => ⟨⟨(f.2 x hx).1.1, by have := (f.2 x hx).1.2; omega⟩, (f.2 x hx).2⟩) t0 t1).mono ?_
  rintro e w' ⟨rfl, hr', hc⟩
  obtain ⟨g1, g2⟩ := back2 (RingR r1 b1 6 6 n1) w' ((RingR.wide _ _ _ _ _).nx' (RingR.good _ _ _ _ _) hr') hc
  obtain ⟨g3, g4⟩ := back _ w' g1 g2
  exact ⟨rfl, g3, g4⟩
theorem over_0 (h : M2 bu ini li rd m r0 r1 b0 b1 n0 n1 w S) : Calls Tryz.prog 106 #[.pointer (some ⟨r0, 0, none⟩)] w fun e w' => e = .returned (.bool false) ∧ w = w' := by
  obtain ⟨B, hq, _, _⟩ := Two.right (One.good _ _ _) h
  obtain ⟨A, hr, _, _⟩ := Two.left (RingR.good _ _ _ _ _) hq
  exact over_any w A r0 b0 60 60 n0 hr
theorem over_1 (h : M2 bu ini li rd m r0 r1 b0 b1 n0 n1 w S) : Calls Tryz.prog 106 #[.pointer (some ⟨r1, 0, none⟩)] w fun e w' => e = .returned (.bool false) ∧ w = w' := by
  obtain ⟨B, hq, _, _⟩ := Two.right (One.good _ _ _) h
  obtain ⟨A, hr, _, _⟩ := Two.right (RingR.good _ _ _ _ _) hq
  exact over_any w A r1 b1 6 6 n1 hr
end

set_option maxHeartbeats 1000000 in
theorem put_m (bu ini li rd : Int) (m : Nat) (b0 b1 : List Bk) (newest t val : Int) (w : World) (S : Nat → Prop) (h : Metric bu ini li rd m b0 b1 newest w S) (f0 : Fine newest b0) (f1 : Fine newest b1) (h0 : -1 ≤ newest) (t0 : newest < t) (t1 : t ≤ 1099511627776) (v0 : 0 ≤ val) (v1 : val ≤ 1125899906842624) :
    Calls Tryz.prog 90 #[.pointer (some ⟨m, 0, none⟩), .int .i64 t, .int .i64 val] w fun e w' => e = .returned (.int .i64 0) ∧ Metric bu ini li rd m (putB 60 t val b0) (putB 6 t val b1) t w' (K.nx S w w') ∧ Chg S w w' := by
  obtain ⟨r0, r1, h⟩ := h
  change M2 bu ini li rd m r0 r1 b0 b1 newest newest w S at h
  have H := Lib.hid h
  clear h
  go_enter Tryz.func90, Tryz.ntmps90
  go_wp2_with fail
  refine (of_0 bu ini li rd m r0 r1 w H.out.blk).mono ?_
  rintro e w1 ⟨rfl, hc1⟩
  have H1 := Lib.hid ((M2.wide _ _ _ _ _ _ _ _ _ _ _).nx (M2.good _ _ _ _ _ _ _ _ _ _ _) H.out hc1)
  have C1 := Lib.hid (hc1.of_no (S := S))
  clear H hc1
  go_wp2_with fail
  refine (put_0 H1.out f0 t val h0 t0 t1 v0 v1).mono ?_
  rintro e w2 ⟨rfl, h2, hc2⟩
  have H2 := Lib.hid ((M2.wide _ _ _ _ _ _ _ _ _ _ _).nn h2 C1.out.size)
  have C2 := Lib.hid (C1.out.next hc2)
  clear H1 C1 h2 hc2
  go_wp2_with fail
  refine (of_1 bu ini li rd m r0 r1 w2 H2.out.blk).mono ?_
  rintro e w3 ⟨rfl, hc3⟩
  have H3 := Lib.hid ((M2.wide _ _ _ _ _ _ _ _ _ _ _).nn ((M2.wide _ _ _ _ _ _ _ _ _ _ _).nx (M2.good _ _ _ _ _ _ _ _ _ _ _) H2.out hc3) C2.out.size)
  have C3 := Lib.hid (C2.out.trans hc3.of_no)
  clear H2 C2 hc3
  go_wp2_with fail
  refine (put_1 H3.out f1 t val h0 t0 t1 v0 v1).mono ?_
  rintro e w4 ⟨rfl, h4, hc4⟩
  have H4 := Lib.hid ((M2.wide _ _ _ _ _ _ _ _ _ _ _).nn h4 C3.out.size)
  have C4 := Lib.hid (C3.out.next hc4)
  clear H3 C3 h4 hc4
  go_wp2_with fail
  go_ret
  exact ⟨rfl, ⟨r0, r1, H4.out⟩, C4.out⟩

set_option maxHeartbeats 1000000 in
theorem means_m (bu ini li rd : Int) (m : Nat) (b0 b1 : List Bk) (newest t : Int) (w : World) (S : Nat → Prop) (h : Metric bu ini li rd m b0 b1 newest w S) (f0 : Fine newest b0) (f1 : Fine newest b1) (h0 : newest ≤ t) (t0 : 0 ≤ t) (t1 : t ≤ 1099511627776) :
    Calls Tryz.prog 94 #[.pointer (some ⟨m, 0, none⟩), .int .i64 t] w fun e w' => e = .returned (.tuple #[.int .i64 (meanB 60 t b0), .int .i64 (meanB 6 t b1)]) ∧ Metric bu ini li rd m b0 b1 newest w' (K.nx S w w') ∧ Chg S w w' := by
  obtain ⟨r0, r1, h⟩ := h
  change M2 bu ini li rd m r0 r1 b0 b1 newest newest w S at h
  have H := Lib.hid h
  clear h
  go_enter Tryz.func94, Tryz.ntmps94
  go_wp2_with fail
  refine (of_0 bu ini li rd m r0 r1 w H.out.blk).mono ?_
  rintro e w1 ⟨rfl, hc1⟩
  have H1 := Lib.hid ((M2.wide _ _ _ _ _ _ _ _ _ _ _).nx (M2.good _ _ _ _ _ _ _ _ _ _ _) H.out hc1)
  have C1 := Lib.hid (hc1.of_no (S := S))
  clear H hc1
  go_wp2_with fail
  refine (mean_0 H1.out f0 t h0 t0 t1).mono ?_
  rintro e w2 ⟨rfl, h2, hc2⟩
  have H2 := Lib.hid ((M2.wide _ _ _ _ _ _ _ _ _ _ _).nn h2 C1.out.size)
  have C2 := Lib.hid (C1.out.next hc2)
  clear H1 C1 h2 hc2
  go_wp2_with fail
  refine (of_1 bu ini li rd m r0 r1 w2 H2.out.blk).mono ?_
  rintro e w3 ⟨rfl, hc3⟩
  have H3 := Lib.hid ((M2.wide _ _ _ _ _ _ _ _ _ _ _).nn ((M2.wide _ _ _ _ _ _ _ _ _ _ _).nx (M2.good _ _ _ _ _ _ _ _ _ _ _) H2.out hc3) C2.out.size)
  have C3 := Lib.hid (C2.out.trans hc3.of_no)
  clear H2 C2 hc3
  go_wp2_with fail
  refine (mean_1 H3.out f1 t h0 t0 t1).mono ?_
  rintro e w4 ⟨rfl, h4, hc4⟩
  have H4 := Lib.hid ((M2.wide _ _ _ _ _ _ _ _ _ _ _).nn h4 C3.out.size)
  have C4 := Lib.hid (C3.out.next hc4)
  clear H3 C3 h4 hc4
  go_wp2_with fail
  go_ret2
  exact ⟨rfl, ⟨r0, r1, H4.out⟩, C4.out⟩
set_option maxHeartbeats 1000000 in
theorem over_m (bu ini li rd : Int) (m : Nat) (b0 b1 : List Bk) (newest : Int) (w : World) (S : Nat → Prop) (h : Metric bu ini li rd m b0 b1 newest w S) :
    Calls Tryz.prog 68 #[.pointer (some ⟨m, 0, none⟩)] w fun e w' => e = .returned (.bool false) ∧ Chg No w w' := by
  obtain ⟨r0, r1, h⟩ := h
  change M2 bu ini li rd m r0 r1 b0 b1 newest newest w S at h
  have c := Blk.cell h.blk 22
  rw [mc_22] at c
  have H := Lib.hid h
  clear h
  go_enter Tryz.func68, Tryz.ntmps68
  go_wp2_with fail
  refine (of_0 bu ini li rd m r0 r1 w H.out.blk).mono ?_
  rintro e w1 ⟨rfl, hc1⟩
  have H1 := Lib.hid ((M2.good _ _ _ _ _ _ _ _ _ _ _).kept H.out hc1)
  have C1 := Lib.hid hc1
  clear H hc1
  go_wp2_with fail
  refine (over_0 H1.out).mono ?_
  rintro e w2 ⟨rfl, rfl⟩
  go_wp2_with fail
  refine (of_1 bu ini li rd m r0 r1 w1 H1.out.blk).mono ?_
  rintro e w3 ⟨rfl, hc3⟩
  have H3 := Lib.hid ((M2.good _ _ _ _ _ _ _ _ _ _ _).kept H1.out hc3)
  have C3 := Lib.hid (C1.out.trans hc3)
  clear H1 C1 hc3
  go_wp2_with fail
  refine (over_1 H3.out).mono ?_
  rintro e w4 ⟨rfl, rfl⟩
  go_wp2_with fail
  go_ret
  exact ⟨rfl, C3.out⟩
end Go.Proofs.YtdgphoemjeakaaaGreatDoor.Me

/-! Package decide: New, metric, holds. -/
namespace Go.Proofs.YtdgphoemjeakaaaGreatDoor.De
open Go.RowKit Go.Proofs.YtdgphoemjeakaaaGreatDoor.K Go.Proofs.YtdgphoemjeakaaaGreatDoor.P Go.Proofs.YtdgphoemjeakaaaGreatDoor.U Go.Proofs.YtdgphoemjeakaaaGreatDoor.R Go.Proofs.YtdgphoemjeakaaaGreatDoor.Me
set_option maxRecDepth 100000

/-- What was wished, as something that lies in blocks. -/
def DelayR (p : Nat) (l : List Dl.Wish) (last : Int) : Rep := fun w S => Dl.Delay w S p l last
theorem DelayR.good (p : Nat) (l : List Dl.Wish) (last : Int) : U.Good (DelayR p l last) := ⟨fun h c hd => Dl.Delay.chg h c hd, fun ⟨_, h⟩ => h.bd⟩
theorem DelayR.wide (p : Nat) (l : List Dl.Wish) (last : Int) : U.Wide (DelayR p l last) := ⟨fun h hs hb => Dl.Delay.mono h (fun k _ h => hs k h) hb⟩
/-- The cells of a decider. -/
def dc (bu ini li rd : Int) (g : Nat) (since most last : Int) : Array Value := mw (ca bu ini li rd) [.slice (some ⟨g, 0, none⟩) 2 2, .int .i64 since, .int .i64 most, .int .i64 last]
def gc (m h : Nat) : Array Value := #[.iface 86 (.pointer (some ⟨m, 0, none⟩)), .iface 88 (.pointer (some ⟨h, 0, none⟩))]
theorem dc_20 (bu ini li rd : Int) (g : Nat) (since most last : Int) : (dc bu ini li rd g since most last)[20]? = some (.slice (some ⟨g, 0, none⟩) 2 2) := rfl
theorem dc_21 (bu ini li rd : Int) (g : Nat) (since most last : Int) : (dc bu ini li rd g since most last)[21]? = some (.int .i64 since) := rfl
theorem dc_22 (bu ini li rd : Int) (g : Nat) (since most last : Int) : (dc bu ini li rd g since most last)[22]? = some (.int .i64 most) := rfl
theorem dc_23 (bu ini li rd : Int) (g : Nat) (since most last : Int) : (dc bu ini li rd g since most last)[23]? = some (.int .i64 last) := rfl
theorem dc_set21 (bu ini li rd : Int) (g : Nat) (since most last v : Int) : (dc bu ini li rd g since most last).setIfInBounds 21 (.int .i64 v) = dc bu ini li rd g v most last := rfl
theorem dc_set22 (bu ini li rd : Int) (g : Nat) (since most last v : Int) : (dc bu ini li rd g since most last).setIfInBounds 22 (.int .i64 v) = dc bu ini li rd g since v last := rfl
theorem dc_set23 (bu ini li rd : Int) (g : Nat) (since most last v : Int) : (dc bu ini li rd g since most last).setIfInBounds 23 (.int .i64 v) = dc bu ini li rd g since most v := rfl
/-- A decider in its parts. -/
def D2 (bu ini li rd : Int) (d g m h : Nat) (b0 b1 : List Bk) (newest : Int) (l : List Dl.Wish) (hlast since most last : Int) : Rep := Two (One d (dc bu ini li rd g since most last) 94) (Two (One g (gc m h) 20) (Two (Metric bu ini li rd m b0 b1 newest) (DelayR h l hlast)))
theorem D2.good {bu ini li rd : Int} {d g m h : Nat} {b0 b1 : List Bk} {newest : Int} {l : List Dl.Wish} {hlast since most last : Int} : U.Good (D2 bu ini li rd d g m h b0 b1 newest l hlast since most last) := Two.good (One.good _ _ _) (Two.good (One.good _ _ _) (Two.good (Metric.good _ _ _ _ _ _ _ _) (DelayR.good _ _ _)))
theorem D2.wide {bu ini li rd : Int} {d g m h : Nat} {b0 b1 : List Bk} {newest : Int} {l : List Dl.Wish} {hlast since most last : Int} : U.Wide (D2 bu ini li rd d g m h b0 b1 newest l hlast since most last) := Two.wide
def Decider (bu ini li rd : Int) (d : Nat) (b0 b1 : List Bk) (newest : Int) (l : List Dl.Wish) (hlast since most last : Int) : Rep := fun w S => ∃ g m h, D2 bu ini li rd d g m h b0 b1 newest l hlast since most last w S
theorem Decider.good {bu ini li rd : Int} {d : Nat} {b0 b1 : List Bk} {newest : Int} {l : List Dl.Wish} {hlast since most last : Int} : U.Good (Decider bu ini li rd d b0 b1 newest l hlast since most last) :=
  ⟨fun ⟨g, m, h, x⟩ c hd => ⟨g, m, h, D2.good.chg x c hd⟩, fun ⟨_, _, _, x⟩ => x.1⟩
theorem Decider.wide {bu ini li rd : Int} {d : Nat} {b0 b1 : List Bk} {newest : Int} {l : List Dl.Wish} {hlast since most last : Int} : U.Wide (Decider bu ini li rd d b0 b1 newest l hlast since most last) :=
  ⟨fun ⟨g, m, h, x⟩ hs hb => ⟨g, m, h, D2.wide.mono x hs hb⟩⟩

theorem rep {bu ini li rd : Int} {m x g d a : Nat} {w : World} (hm : Metric bu ini li rd m [] [] (-1) w (fun k => a ≤ k ∧ k < x)) (hx : a ≤ x) (hd : Dl.Delay w (fun k => k = x) x [] 0) (hg : x < g) (hgd : g < d) (bg : Blk w g (gc m x) 20) (bd : Blk w d (dc bu ini li rd g (-1) 0 0) 94) :
    D2 bu ini li rd d g m x [] [] (-1) [] 0 (-1) 0 0 w (fun k => a ≤ k ∧ k < w.heap.size) := by
  have h1 := bd.lt
  refine ⟨fun k hk => hk.2, fun k => k = d, fun k => a ≤ k ∧ k < d, fun k hk => by omega, fun k hk => by omega, fun k h h' => by omega, ⟨fun k hk => by omega, rfl, bd⟩, fun k hk => by omega, fun k => k = g, fun k => a ≤ k ∧ k < g, fun k hk => by omega, fun k hk => by omega, fun k h h' => by omega, ⟨fun k hk => by omega, rfl, bg⟩, fun k hk => by omega, fun k => a ≤ k ∧ k < x, fun k => k = x, fun k hk => by omega, fun k hk => by omega, fun k h h' => by omega, hm, hd⟩
theorem keepC {w w' : World} {B : Nat} {bu ini li rd : Int} (h : Hid (Blk w B (ca bu ini li rd) 24) ∧ rowOf w B 0 20 = some (.agg (ca bu ini li rd)) ∧ w.cell? ⟨B, 12, none⟩ = some (.int .i64 0)) (c : Chg No w w') :
    Hid (Blk w' B (ca bu ini li rd) 24) ∧ rowOf w' B 0 20 = some (.agg (ca bu ini li rd)) ∧ w'.cell? ⟨B, 12, none⟩ = some (.int .i64 0) := by
  have hb : Blk w' B (ca bu ini li rd) 24 := h.1.out.kept c
  have hr := rowOf_blk hb
  rw [ca_size] at hr
  exact ⟨hb, hr, cell_ca hb 12⟩

set_option maxHeartbeats 1000000 in
theorem new_any (hm : Said.may) (bu ini li rd : Int) (ok : P.Ok bu ini li rd) (w : World) : Calls Tryz.prog 19 #[.agg (ca bu ini li rd)] w fun e w' => ∃ d, e = .returned (.pointer (some ⟨d, 0, none⟩)) ∧ Decider bu ini li rd d [] [] (-1) [] 0 (-1) 0 0 w' (fun k => w.heap.size ≤ k ∧ k < w'.heap.size) ∧ Chg No w w' := by
  have HM := Lib.hid (hm bu ini li rd ok)
  have HN := Lib.hid (Me.new_any hm bu ini li rd ok)
  clear hm ok
  go_enter Tryz.func19, Tryz.ntmps19
  go_wp2_with fail
  have hB : Blk (w.alloc (.cells (ca bu ini li rd) 24)) w.heap.size (ca bu ini li rd) 24 := Blk.new _ _ _
  have HC : Hid (Chg No w (w.alloc (.cells (ca bu ini li rd) 24))) := (Chg.refl No w).alloc _
  generalize w.alloc (.cells (ca bu ini li rd) 24) = w1 at *
  generalize w.heap.size = B at *
  have hr := rowOf_blk hB
  rw [ca_size] at hr
  go_wp2_with (first | (go_at_call 16; refine (HM.out _).mono ?_; rintro e w2 ⟨rfl, hc⟩))
  have hB2 := hB.kept hc
  have hr2 := rowOf_blk hB2
  rw [ca_size] at hr2
  have HC2 := Lib.hid (HC.out.trans hc)
  clear hB hr hc HC HM
  have hS : Hid (Blk w2.drew B (ca bu ini li rd) 24) ∧ rowOf w2.drew B 0 20 = some (.agg (ca bu ini li rd)) ∧ w2.drew.cell? ⟨B, 12, none⟩ = some (.int .i64 0) := ⟨hB2, hr2, cell_ca hB2 12⟩
  go_region_held3 (fun w' => Hid (Blk w' B (ca bu ini li rd) 24) ∧ rowOf w' B 0 20 = some (.agg (ca bu ini li rd)) ∧ w'.cell? ⟨B, 12, none⟩ = some (.int .i64 0)) (first | exact hS | assumption | exact keepC (by assumption) hc3 | exact keepC (by assumption) hc5 | exact keepC (by assumption) ((Chg.refl No _).alloc _)) (first | (go_at_call 40; refine (HN.out _).mono ?_; rintro e w3 ⟨m, rfl, hmet, hc3⟩) | (go_at_call 41; refine (Dl.new_any _).mono ?_; rintro e w4 ⟨rfl, rfl⟩) | (go_at_call 42; refine (calm_any _).mono ?_; rintro e w5 ⟨rfl, hc5⟩))
  · have C3 : Chg No w2 w3 := (Chg.refl No w2).drew.trans hc3
    have z1 := HC2.out.size
    have z2 := C3.size
    have s4 : (w3.alloc (.cells #[.slice none 0 0, .int .i64 0, .int .i64 0] 134)).heap.size = w3.heap.size + 1 := by simp
    have d4 := Dl.new_rep w3
    have g4 := Blk.new (w3.alloc (.cells #[.slice none 0 0, .int .i64 0, .int .i64 0] 134)) (gc m w3.heap.size) 20
    rw [s4] at g4
    have z3 : w3.heap.size + 2 ≤ w5.heap.size := by have := hc5.size; simp at this; omega
    have HR := Lib.hid (rep (w := w5.alloc (.cells (dc bu ini li rd (w3.heap.size + 1) (-1) 0 0) 94)) (d := w5.heap.size) ((Metric.good _ _ _ _ _ _ _ _).kept hmet ((((Chg.refl No w3).alloc _).alloc _).trans (hc5.alloc _))) (by show w2.heap.size ≤ _; omega) ((DelayR.good _ _ _).kept d4 (((Chg.refl No _).alloc _).trans (hc5.alloc _))) (by omega) (by omega) (g4.kept (hc5.alloc _)) (Blk.new _ _ _))
    have HC := Lib.hid (HC2.out.trans (C3.trans ((((Chg.refl No w3).alloc _).alloc _).trans (hc5.alloc (.cells (dc bu ini li rd (w3.heap.size + 1) (-1) 0 0) 94)))))
    clear hmet hc3 hc5 d4 g4
    go_wp2
    go_ret
    exact ⟨_, rfl, ⟨_, _, _, D2.wide.mono HR.out (fun k hk => ⟨Nat.le_trans z1 hk.1, hk.2⟩) fun _ hk => hk.2⟩, HC.out⟩
  · have C3 : Chg No w2 w3 := (Chg.refl No w2).drew.trans hc3
    have z1 := HC2.out.size
    have z2 := C3.size
    have s4 : (w3.alloc (.cells #[.slice none 0 0, .int .i64 0, .int .i64 0] 134)).heap.size = w3.heap.size + 1 := by simp
    have d4 := Dl.new_rep w3
    have g4 := Blk.new w5 (gc m w3.heap.size) 20
    have z3 : w3.heap.size + 1 ≤ w5.heap.size := by have := hc5.size; simp at this; omega
    have s5 : (w5.alloc (.cells (gc m w3.heap.size) 20)).heap.size = w5.heap.size + 1 := by simp
    have e5 := Blk.new (w5.alloc (.cells (gc m w3.heap.size) 20)) (dc bu ini li rd w5.heap.size (-1) 0 0) 94
    rw [s5] at e5
    have HR := Lib.hid (rep (w := (w5.alloc (.cells (gc m w3.heap.size) 20)).alloc (.cells (dc bu ini li rd w5.heap.size (-1) 0 0) 94)) (d := w5.heap.size + 1) (g := w5.heap.size) ((Metric.good _ _ _ _ _ _ _ _).kept hmet (((Chg.refl No w3).alloc _).trans ((hc5.alloc _).alloc _))) (by show w2.heap.size ≤ _; omega) ((DelayR.good _ _ _).kept d4 ((hc5.alloc _).alloc _)) (by omega) (by omega) (g4.kept ((Chg.refl No _).alloc _)) e5)
    have HC := Lib.hid (HC2.out.trans (C3.trans (((Chg.refl No w3).alloc _).trans ((hc5.alloc (.cells (gc m w3.heap.size) 20)).alloc (.cells (dc bu ini li rd w5.heap.size (-1) 0 0) 94)))))
    clear hmet hc3 hc5 d4 g4 e5
    go_wp2
    go_ret
    exact ⟨_, rfl, ⟨_, _, _, D2.wide.mono HR.out (fun k hk => ⟨Nat.le_trans z1 hk.1, hk.2⟩) fun _ hk => hk.2⟩, HC.out⟩
end Go.Proofs.YtdgphoemjeakaaaGreatDoor.De

/-! Package decide: metric, holds, Put, Over. -/
namespace Go.Proofs.YtdgphoemjeakaaaGreatDoor.De
open Go.RowKit Go.Proofs.YtdgphoemjeakaaaGreatDoor.K Go.Proofs.YtdgphoemjeakaaaGreatDoor.P Go.Proofs.YtdgphoemjeakaaaGreatDoor.U Go.Proofs.YtdgphoemjeakaaaGreatDoor.R Go.Proofs.YtdgphoemjeakaaaGreatDoor.Me

section
variable {bu ini li rd : Int} {d g m h : Nat} {b0 b1 : List Bk} {newest : Int} {l : List Dl.Wish} {hlast since most last : Int} {w : World} {S : Nat → Prop}
theorem D2.blk (x : D2 bu ini li rd d g m h b0 b1 newest l hlast since most last w S) : Blk w d (dc bu ini li rd g since most last) 94 := by
  obtain ⟨A, h1, _⟩ := Two.left (Two.good (One.good _ _ _) (Two.good (Metric.good _ _ _ _ _ _ _ _) (DelayR.good _ _ _))) x
  exact h1.2.2
theorem D2.own (x : D2 bu ini li rd d g m h b0 b1 newest l hlast since most last w S) : S d := by
  obtain ⟨A, h1, h2, _⟩ := Two.left (Two.good (One.good _ _ _) (Two.good (Metric.good _ _ _ _ _ _ _ _) (DelayR.good _ _ _))) x
  exact h2 _ h1.2.1
theorem D2.gblk (x : D2 bu ini li rd d g m h b0 b1 newest l hlast since most last w S) : Blk w g (gc m h) 20 := by
  obtain ⟨A, h1, _⟩ := Two.right (One.good _ _ _) x
  obtain ⟨A, h1, _⟩ := Two.left (Two.good (Metric.good _ _ _ _ _ _ _ _) (DelayR.good _ _ _)) h1
  exact h1.2.2
/-- Another decider's own cells. -/
theorem D2.cell (x : D2 bu ini li rd d g m h b0 b1 newest l hlast since most last w S) (j : Nat) (v : Value) (since' most' last' : Int) (he : (dc bu ini li rd g since most last).setIfInBounds j v = dc bu ini li rd g since' most' last') :
    D2 bu ini li rd d g m h b0 b1 newest l hlast since' most' last' (w.setCell ⟨d, j, none⟩ v) (K.nx S w (w.setCell ⟨d, j, none⟩ v)) ∧ Chg S w (w.setCell ⟨d, j, none⟩ v) := by
  obtain ⟨A, h1, _, back⟩ := Two.left (Two.good (One.good _ _ _) (Two.good (Metric.good _ _ _ _ _ _ _ _) (DelayR.good _ _ _))) x
  obtain ⟨g1, g2⟩ := h1.set j v
  rw [he] at g1
  exact back _ _ g1 g2
/-- The windows may be turned by themselves. -/
theorem D2.met (x : D2 bu ini li rd d g m h b0 b1 newest l hlast since most last w S) : ∃ A : Nat → Prop, Metric bu ini li rd m b0 b1 newest w A ∧ ∀ (b0' b1' : List Bk) (newest' : Int) (w' : World), Metric bu ini li rd m b0' b1' newest' w' (K.nx A w w') → Chg A w w' →
    D2 bu ini li rd d g m h b0' b1' newest' l hlast since most last w' (K.nx S w w') ∧ Chg S w w' := by
  obtain ⟨A, h1, _, back⟩ := Two.right (One.good _ _ _) x
  obtain ⟨A2, h2, _, back2⟩ := Two.right (One.good _ _ _) h1
  obtain ⟨A3, h3, _, back3⟩ := Two.left (DelayR.good _ _ _) h2
  refine ⟨A3, h3, fun b0' b1' newest' w' hm hc => ?_⟩
  obtain ⟨g1, g2⟩ := back3 _ w' hm hc
  obtain ⟨g1, g2⟩ := back2 _ w' g1 g2
  exact back _ w' g1 g2
/-- What was wished may be turned by itself. -/
theorem D2.del (x : D2 bu ini li rd d g m h b0 b1 newest l hlast since most last w S) : ∃ A : Nat → Prop, Dl.Delay w A h l hlast ∧ ∀ (l' : List Dl.Wish) (hlast' : Int) (w' : World), Dl.Delay w' (K.nx A w w') h l' hlast' → Chg A w w' →
    D2 bu ini li rd d g m h b0 b1 newest l' hlast' since most last w' (K.nx S w w') ∧ Chg S w w' := by
  obtain ⟨A, h1, _, back⟩ := Two.right (One.good _ _ _) x
  obtain ⟨A2, h2, _, back2⟩ := Two.right (One.good _ _ _) h1
  obtain ⟨A3, h3, _, back3⟩ := Two.right (Metric.good _ _ _ _ _ _ _ _) h2
  refine ⟨A3, h3, fun l' hlast' w' hm hc => ?_⟩
  obtain ⟨g1, g2⟩ := back3 (DelayR h l' hlast') w' hm hc
  obtain ⟨g1, g2⟩ := back2 _ w' g1 g2
  exact back _ w' g1 g2
end

set_option maxHeartbeats 1000000 in
theorem metric_any (bu ini li rd : Int) (d g m h : Nat) (since most last : Int) (w : World) (hd : Blk w d (dc bu ini li rd g since most last) 94) (hg : Blk w g (gc m h) 20) : Calls Tryz.prog 67 #[.pointer (some ⟨d, 0, none⟩)] w fun e w' => e = .returned (.pointer (some ⟨m, 0, none⟩)) ∧ Chg No w w' := by
  have c := Blk.cell hd 20
  rw [dc_20] at c
  have c0 : w.cell? ⟨g, 0, none⟩ = some (.iface 86 (.pointer (some ⟨m, 0, none⟩))) := Blk.cell hg 0
  clear hd hg
  go_enter Tryz.func67, Tryz.ntmps67
  go_wp2
  go_ret
  exact ⟨rfl, Chg.refl _ _⟩
set_option maxHeartbeats 1000000 in
theorem holds_any (bu ini li rd : Int) (d g m h : Nat) (since most last : Int) (w : World) (hd : Blk w d (dc bu ini li rd g since most last) 94) (hg : Blk w g (gc m h) 20) : Calls Tryz.prog 88 #[.pointer (some ⟨d, 0, none⟩)] w fun e w' => e = .returned (.pointer (some ⟨h, 0, none⟩)) ∧ Chg No w w' := by
  have c := Blk.cell hd 20
  rw [dc_20] at c
  have c0 : w.cell? ⟨g, 1, none⟩ = some (.iface 88 (.pointer (some ⟨h, 0, none⟩))) := Blk.cell hg 1
  clear hd hg
  go_enter Tryz.func88, Tryz.ntmps88
  go_wp2
  go_ret
  exact ⟨rfl, Chg.refl _ _⟩
set_option maxHeartbeats 1000000 in
theorem put_any (bu ini li rd : Int) (d : Nat) (b0 b1 : List Bk) (newest : Int) (l : List Dl.Wish) (hlast since most last t val : Int) (w : World) (S : Nat → Prop) (x : Decider bu ini li rd d b0 b1 newest l hlast since most last w S) (f0 : Me.Fine newest b0) (f1 : Me.Fine newest b1) (h0 : -1 ≤ newest) (t0 : newest < t) (t1 : t ≤ 1099511627776) (v0 : 0 ≤ val) (v1 : val ≤ 1125899906842624) :
    Calls Tryz.prog 60 #[.pointer (some ⟨d, 0, none⟩), .int .i64 t, .int .i64 val] w fun e w' => e = .returned (.int .i64 0) ∧ Decider bu ini li rd d (putB 60 t val b0) (putB 6 t val b1) t l hlast since most last w' (K.nx S w w') ∧ Chg S w w' := by
  obtain ⟨g, m, h, x⟩ := x
  have H := Lib.hid x
  clear x
  go_enter Tryz.func60, Tryz.ntmps60
  go_wp2_with fail
  refine (metric_any bu ini li rd d g m h since most last w H.out.blk H.out.gblk).mono ?_
  rintro e w1 ⟨rfl, hc1⟩
  have H1 := Lib.hid (D2.wide.nx D2.good H.out hc1)
  have C1 := Lib.hid (hc1.of_no (S := S))
  clear H hc1
  go_wp2_with fail
  obtain ⟨A, hm, back⟩ := H1.out.met
  have HB := Lib.hid back
  clear back
  refine (Me.put_m bu ini li rd m b0 b1 newest t val w1 A hm f0 f1 h0 t0 t1 v0 v1).mono ?_
  rintro e w2 ⟨rfl, h2, hc2⟩
  obtain ⟨g1, g2⟩ := HB.out _ _ _ w2 h2 hc2
  have H2 := Lib.hid (D2.wide.nn g1 C1.out.size)
  have C2 := Lib.hid (C1.out.next g2)
  clear H1 C1 h2 hc2 g1 g2 HB hm
  go_wp2_with fail
  go_ret
  exact ⟨rfl, ⟨g, m, h, H2.out⟩, C2.out⟩
set_option maxHeartbeats 1000000 in
theorem over_any (bu ini li rd : Int) (d : Nat) (b0 b1 : List Bk) (newest : Int) (l : List Dl.Wish) (hlast since most last : Int) (w : World) (S : Nat → Prop) (x : Decider bu ini li rd d b0 b1 newest l hlast since most last w S) :
    Calls Tryz.prog 36 #[.pointer (some ⟨d, 0, none⟩)] w fun e w' => e = .returned (.bool false) ∧ Chg No w w' := by
  obtain ⟨g, m, h, x⟩ := x
  have H := Lib.hid x
  clear x
  go_enter Tryz.func36, Tryz.ntmps36
  go_wp2_with fail
  refine (metric_any bu ini li rd d g m h since most last w H.out.blk H.out.gblk).mono ?_
  rintro e w1 ⟨rfl, hc1⟩
  have H1 := Lib.hid (D2.good.kept H.out hc1)
  have C1 := Lib.hid hc1
  clear H hc1
  go_wp2_with fail
  obtain ⟨A, hm, _⟩ := H1.out.met
  refine (Me.over_m bu ini li rd m b0 b1 newest w1 A hm).mono ?_
  rintro e w2 ⟨rfl, hc2⟩
  have C2 := Lib.hid (C1.out.trans hc2)
  clear hc2 hm
  go_wp2_with fail
  go_ret
  exact ⟨rfl, C2.out⟩
end Go.Proofs.YtdgphoemjeakaaaGreatDoor.De

/-! Package decide: what Next keeps. -/
namespace Go.Proofs.YtdgphoemjeakaaaGreatDoor.De
open Go.RowKit Go.Proofs.YtdgphoemjeakaaaGreatDoor.K Go.Proofs.YtdgphoemjeakaaaGreatDoor.P Go.Proofs.YtdgphoemjeakaaaGreatDoor.U Go.Proofs.YtdgphoemjeakaaaGreatDoor.R Go.Proofs.YtdgphoemjeakaaaGreatDoor.Me

theorem row_dc {w : World} {bu ini li rd : Int} {d g : Nat} {since most last : Int} (h : Blk w d (dc bu ini li rd g since most last) 94) : rowOf w d 0 20 = some (.agg (ca bu ini li rd)) := by
  rw [← ca_size bu ini li rd]
  refine rowOf_of fun j hj => ?_
  rw [Nat.zero_add, h.cell]
  exact Array.getElem?_append_left hj
/-- What stays as it is while others read. -/
def Kp (bu ini li rd : Int) (d g : Nat) (since most last : Int) (w1 w' : World) : Prop := Chg No w1 w' ∧ Blk w' d (dc bu ini li rd g since most last) 94
theorem Kp.step {bu ini li rd : Int} {d g : Nat} {since most last : Int} {w1 w2 w3 : World} (hc : Chg No w2 w3) (h : Hid (Kp bu ini li rd d g since most last w1 w2) ∧ rowOf w2 d 0 20 = some (.agg (ca bu ini li rd))) :
    Hid (Kp bu ini li rd d g since most last w1 w3) ∧ rowOf w3 d 0 20 = some (.agg (ca bu ini li rd)) := by
  have hb := h.1.out.2.kept hc
  exact ⟨⟨h.1.out.1.trans hc, hb⟩, row_dc hb⟩
theorem Kp.start {bu ini li rd : Int} {d g : Nat} {since most last : Int} {w1 : World} (h : Blk w1 d (dc bu ini li rd g since most last) 94) :
    Hid (Kp bu ini li rd d g since most last w1 w1.drew) ∧ rowOf w1.drew d 0 20 = some (.agg (ca bu ini li rd)) := ⟨⟨(Chg.refl No w1).drew, h⟩, row_dc h⟩

/-- The cells of a decision that is nothing yet. -/
def zz : Array Value := #[.int .i64 0, .int .i64 0, .int .i64 0, .int .i64 0, .bool false, .int .i64 0]
/-- A decider under way: its blocks, and a result's block apart from them. -/
def Nx (bu ini li rd : Int) (d g m h : Nat) (w0 : World) (S : Nat → Prop) (B : Nat) (b0 b1 : List Bk) (newest : Int) (l : List Dl.Wish) (hlast since most last : Int) (w : World) : Prop :=
  ∃ A : Nat → Prop, D2 bu ini li rd d g m h b0 b1 newest l hlast since most last w A ∧ ¬ A B ∧ Blk w B zz 63 ∧ (∀ k, A k → S k ∨ w0.heap.size ≤ k) ∧ Chg S w0 w
section
variable {bu ini li rd : Int} {d g m h : Nat} {w0 : World} {S : Nat → Prop} {B : Nat} {b0 b1 : List Bk} {newest : Int} {l : List Dl.Wish} {hlast since most last : Int} {w w' : World}
theorem Nx.no (x : Nx bu ini li rd d g m h w0 S B b0 b1 newest l hlast since most last w) (c : Chg No w w') : Nx bu ini li rd d g m h w0 S B b0 b1 newest l hlast since most last w' := by
  obtain ⟨A, h1, h2, h3, h4, h5⟩ := x
  exact ⟨A, D2.good.kept h1 c, h2, h3.kept c, h4, h5.trans c.of_no⟩
theorem Nx.mk' {A : Nat → Prop} {b0' b1' : List Bk} {newest' : Int} {l' : List Dl.Wish} {hlast' since' most' last' : Int} (h2 : ¬ A B) (h3 : Blk w B zz 63) (h4 : ∀ k, A k → S k ∨ w0.heap.size ≤ k) (h5 : Chg S w0 w) (hd : D2 bu ini li rd d g m h b0' b1' newest' l' hlast' since' most' last' w' (K.nx A w w')) (c : Chg A w w') :
    Nx bu ini li rd d g m h w0 S B b0' b1' newest' l' hlast' since' most' last' w' :=
  ⟨K.nx A w w', hd, fun hB => hB.1.elim h2 (by have := h3.lt; omega), h3.chg c h2, fun k hk => hk.1.elim (h4 k) (fun hk => .inr (Nat.le_trans h5.size hk)), h5.step c fun k hk ha => (h4 k ha).elim id (by omega)⟩
theorem Nx.cell (x : Nx bu ini li rd d g m h w0 S B b0 b1 newest l hlast since most last w) (j : Nat) (v : Value) (since' most' last' : Int) (he : (dc bu ini li rd g since most last).setIfInBounds j v = dc bu ini li rd g since' most' last') :
    Nx bu ini li rd d g m h w0 S B b0 b1 newest l hlast since' most' last' (w.setCell ⟨d, j, none⟩ v) := by
  obtain ⟨A, h1, h2, h3, h4, h5⟩ := x
  obtain ⟨g1, g2⟩ := h1.cell j v since' most' last' he
  exact Nx.mk' h2 h3 h4 h5 g1 g2
theorem Nx.met (x : Nx bu ini li rd d g m h w0 S B b0 b1 newest l hlast since most last w) : ∃ A : Nat → Prop, Metric bu ini li rd m b0 b1 newest w A ∧ ∀ (b0' b1' : List Bk) (newest' : Int) (w' : World), Metric bu ini li rd m b0' b1' newest' w' (K.nx A w w') → Chg A w w' →
    Nx bu ini li rd d g m h w0 S B b0' b1' newest' l hlast since most last w' := by
  obtain ⟨A, h1, h2, h3, h4, h5⟩ := x
  obtain ⟨C, hm, back⟩ := h1.met
  refine ⟨C, hm, fun b0' b1' newest' w' hm' hc => ?_⟩
  obtain ⟨g1, g2⟩ := back _ _ _ w' hm' hc
  exact Nx.mk' h2 h3 h4 h5 g1 g2
theorem Nx.del (x : Nx bu ini li rd d g m h w0 S B b0 b1 newest l hlast since most last w) : ∃ A : Nat → Prop, Dl.Delay w A h l hlast ∧ ∀ (l' : List Dl.Wish) (hlast' : Int) (w' : World), Dl.Delay w' (K.nx A w w') h l' hlast' → Chg A w w' →
    Nx bu ini li rd d g m h w0 S B b0 b1 newest l' hlast' since most last w' := by
  obtain ⟨A, h1, h2, h3, h4, h5⟩ := x
  obtain ⟨C, hm, back⟩ := h1.del
  refine ⟨C, hm, fun l' hlast' w' hm' hc => ?_⟩
  obtain ⟨g1, g2⟩ := back _ _ w' hm' hc
  exact Nx.mk' h2 h3 h4 h5 g1 g2
theorem Nx.blk (x : Nx bu ini li rd d g m h w0 S B b0 b1 newest l hlast since most last w) : Blk w d (dc bu ini li rd g since most last) 94 := x.choose_spec.1.blk
theorem Nx.gblk (x : Nx bu ini li rd d g m h w0 S B b0 b1 newest l hlast since most last w) : Blk w g (gc m h) 20 := x.choose_spec.1.gblk
theorem Nx.res (x : Nx bu ini li rd d g m h w0 S B b0 b1 newest l hlast since most last w) : Blk w B zz 63 := x.choose_spec.2.2.1
theorem Nx.c21 (x : Nx bu ini li rd d g m h w0 S B b0 b1 newest l hlast since most last w) : w.cell? ⟨d, 21, none⟩ = some (.int .i64 since) := by
  rw [x.blk.cell]; rfl
theorem Nx.c22 (x : Nx bu ini li rd d g m h w0 S B b0 b1 newest l hlast since most last w) : w.cell? ⟨d, 22, none⟩ = some (.int .i64 most) := by
  rw [x.blk.cell]; rfl
/-- The end: the result is laid. -/
theorem Nx.done (x : Nx bu ini li rd d g m h w0 S B b0 b1 newest l hlast since most last w) (hB : w0.heap.size ≤ B) (cs : Array Value) :
    D2 bu ini li rd d g m h b0 b1 newest l hlast since most last (w.setRow B cs) (K.nx S w0 (w.setRow B cs)) ∧ Chg S w0 (w.setRow B cs) := by
  obtain ⟨A, h1, h2, h3, h4, h5⟩ := x
  have c1 : Chg (fun k => k = B) w (w.setRow B cs) := (Chg.refl (fun k => k = B) w).setRow (fun _ => rfl) cs
  have d1 := D2.good.chg h1 c1 (fun k ha hk => h2 (hk ▸ ha))
  exact ⟨D2.wide.mono d1 (fun k hk => ⟨h4 k hk, D2.good.bd d1 k hk⟩) fun _ hk => hk.2, h5.setRow (fun hb => absurd hb (by omega)) cs⟩
theorem Nx.start {x : D2 bu ini li rd d g m h b0 b1 newest l hlast since most last w0 S} (now : Int) : Nx bu ini li rd d g m h w0 S w0.heap.size b0 b1 newest l hlast since most now ((w0.setCell ⟨d, 23, none⟩ (.int .i64 now)).alloc (.cells zz 63)) := by
  obtain ⟨g1, g2⟩ := x.cell 23 (.int .i64 now) since most now (dc_set23 ..)
  have hs : (w0.setCell ⟨d, 23, none⟩ (.int .i64 now)).heap.size = w0.heap.size := by simp [World.setCell]
  refine ⟨_, D2.good.kept g1 ((Chg.refl No _).alloc _), fun hB => ?_, ?_, fun k hk => hk.1, g2.alloc _⟩
  · have := hB.2; omega
  · have := Blk.new (w0.setCell ⟨d, 23, none⟩ (.int .i64 now)) zz 63
    rwa [hs] at this
end
theorem meanB_bd {n t newest : Int} {bs : List Bk} (f : Me.Fine newest bs) : 0 ≤ meanB n t bs ∧ meanB n t bs ≤ 1152921504606846976 := by
  obtain ⟨s0, s1⟩ := sumB_bd n t bs fun b hb => (f.2 b hb).2
  obtain ⟨n0, n1⟩ := numB_bd n t bs
  have := f.1
  unfold meanB
  split
  · omega
  · have := Int.ediv_nonneg s0 n0
    have := Int.ediv_le_self (a := sumB n t bs) (numB n t bs) s0
    omega

/-- What is decided, and what is kept of it. -/
structure Dn where
  stable : Int
  quick : Int
  want : Int
  panic : Bool
  excess : Int
  l : List Dl.Wish
  since : Int
  most : Int
def nextD (bu li : Int) (b0 b1 : List Bk) (l : List Dl.Wish) (since most now ready : Int) : Dn :=
  let st := meanB 60 now b0
  let qu := meanB 6 now b1
  let md := nextMode since most now (over (wantOf qu) ready)
  let n0 := limit (wantOf st) ready
  let n1 := if 0 ≤ md.1 then max n0 (limit (wantOf qu) ready) else n0
  let l' := G.kept (Dl.far now) l ++ [(now, n1)]
  let kp := keep md.1 md.2 (Dl.mostD now l')
  { stable := st, quick := qu, want := max (min kp.2 100) 0, panic := decide (0 ≤ md.1), excess := excess bu li ready qu, l := l', since := md.1, most := kp.1 }

/-- What stays as it is while the mode is written. -/
def Kq (bu ini li rd : Int) (d g : Nat) (last : Int) (w' : World) : Prop := ∃ s m, Blk w' d (dc bu ini li rd g s m last) 94
theorem Kq.step {bu ini li rd : Int} {d g : Nat} {last : Int} {w2 w3 : World} (hc : Chg No w2 w3) (h : Hid (Kq bu ini li rd d g last w2) ∧ rowOf w2 d 0 20 = some (.agg (ca bu ini li rd))) :
    Hid (Kq bu ini li rd d g last w3) ∧ rowOf w3 d 0 20 = some (.agg (ca bu ini li rd)) := by
  obtain ⟨s, m, hb⟩ := h.1.out
  have hb := hb.kept hc
  exact ⟨⟨s, m, hb⟩, row_dc hb⟩
theorem Kq.store {bu ini li rd : Int} {d g : Nat} {last x y : Int} {w2 : World} (h : Hid (Kq bu ini li rd d g last w2) ∧ rowOf w2 d 0 20 = some (.agg (ca bu ini li rd))) :
    Hid (Kq bu ini li rd d g last ((w2.setCell ⟨d, 21, none⟩ (.int .i64 x)).setCell ⟨d, 22, none⟩ (.int .i64 y))) ∧ rowOf ((w2.setCell ⟨d, 21, none⟩ (.int .i64 x)).setCell ⟨d, 22, none⟩ (.int .i64 y)) d 0 20 = some (.agg (ca bu ini li rd)) := by
  obtain ⟨s, m, hb⟩ := h.1.out
  have hb := (hb.set 21 (.int .i64 x)).set 22 (.int .i64 y)
  rw [dc_set21, dc_set22] at hb
  exact ⟨⟨x, y, hb⟩, row_dc hb⟩
theorem Kq.start {bu ini li rd : Int} {d g : Nat} {since most last : Int} {w1 : World} (h : Blk w1 d (dc bu ini li rd g since most last) 94) :
    Hid (Kq bu ini li rd d g last w1.drew) ∧ rowOf w1.drew d 0 20 = some (.agg (ca bu ini li rd)) := ⟨⟨since, most, h⟩, row_dc h⟩

end Go.Proofs.YtdgphoemjeakaaaGreatDoor.De
