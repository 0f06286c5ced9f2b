/- conf.May over any settings: each part within its bounds. Whatever the numbers: milli hands back two; how many are wanted, how fast. What is known of the decider: exactly (at the document's settings), or only that it works (at any settings). The whole service in memory: its parts, each of which may be turned by itself. The whole service: a state on the way; pods, waits, decides; flying, busy. The whole service: busy. A region that draws its order: more steps: loads and stores of rows, a store of one cell. -/
import Derived.Test.YtdgphoemjeakaaaGreatDoorR08
import Derived.Test.YtdgphoemjeakaaaGreatDoorR02
import Derived.Test.YtdgphoemjeakaaaGreatDoorR06
import Derived.Test.YtdgphoemjeakaaaGreatDoorR04
import Derived.Test.YtdgphoemjeakaaaGreatDoorR07
import Derived.Test.YtdgphoemjeakaaaGreatDoorR05
namespace Go.Proofs.YtdgphoemjeakaaaGreatDoor.Mg
open Go.RowKit K W Rg P
def topI (v : Nat → Int) : Int := if v 9 == 0 then 100 else v 9
def pbs (v : Nat → Int) (tp : Int) : List Bool := [wi (v 0) 10 1000000, wi (v 1) 100 1000, wi (v 2) 6 600, wi (v 3) 1 (v 2), wi (v 4) 1 (v 3), wi (v 5) 1100 10000, wi (v 6) 1001 1000000, wi (v 7) 1001 1000000, wi (v 8) 0 100, (v 9 == 0) || wi (v 9) (max (v 8) 1) 100, wi (v 10) 0 tp, wi (v 11) 0 600, wi (v 12) 0 600, (v 13 == -1000) || wi (v 13) 0 100000000, wi (v 14) 1 1000, wi (v 15) 0 200, wi (v 16) 1 10000, wi (v 17) 0 100, wi (v 18) 0 100, wi (v 19) 0 100]
def mayB (v : Nat → Int) : Bool := (pbs v (topI v)).all id
theorem cf_size (v : Nat → Int) : (cf v).size = 20 := rfl
@[go_sem] theorem cf_0 (v : Nat → Int) : (cf v)[0]? = some (.int .i64 (v 0)) := rfl
@[go_sem] theorem cf_1 (v : Nat → Int) : (cf v)[1]? = some (.int .i64 (v 1)) := rfl
@[go_sem] theorem cf_2 (v : Nat → Int) : (cf v)[2]? = some (.int .i64 (v 2)) := rfl
@[go_sem] theorem cf_3 (v : Nat → Int) : (cf v)[3]? = some (.int .i64 (v 3)) := rfl
@[go_sem] theorem cf_4 (v : Nat → Int) : (cf v)[4]? = some (.int .i64 (v 4)) := rfl
@[go_sem] theorem cf_5 (v : Nat → Int) : (cf v)[5]? = some (.int .i64 (v 5)) := rfl
@[go_sem] theorem cf_6 (v : Nat → Int) : (cf v)[6]? = some (.int .i64 (v 6)) := rfl
@[go_sem] theorem cf_7 (v : Nat → Int) : (cf v)[7]? = some (.int .i64 (v 7)) := rfl
@[go_sem] theorem cf_8 (v : Nat → Int) : (cf v)[8]? = some (.int .i64 (v 8)) := rfl
@[go_sem] theorem cf_9 (v : Nat → Int) : (cf v)[9]? = some (.int .i64 (v 9)) := rfl
@[go_sem] theorem cf_10 (v : Nat → Int) : (cf v)[10]? = some (.int .i64 (v 10)) := rfl
@[go_sem] theorem cf_11 (v : Nat → Int) : (cf v)[11]? = some (.int .i64 (v 11)) := rfl
@[go_sem] theorem cf_12 (v : Nat → Int) : (cf v)[12]? = some (.int .i64 (v 12)) := rfl
@[go_sem] theorem cf_13 (v : Nat → Int) : (cf v)[13]? = some (.int .i64 (v 13)) := rfl
@[go_sem] theorem cf_14 (v : Nat → Int) : (cf v)[14]? = some (.int .i64 (v 14)) := rfl
@[go_sem] theorem cf_15 (v : Nat → Int) : (cf v)[15]? = some (.int .i64 (v 15)) := rfl
@[go_sem] theorem cf_16 (v : Nat → Int) : (cf v)[16]? = some (.int .i64 (v 16)) := rfl
@[go_sem] theorem cf_17 (v : Nat → Int) : (cf v)[17]? = some (.int .i64 (v 17)) := rfl
@[go_sem] theorem cf_18 (v : Nat → Int) : (cf v)[18]? = some (.int .i64 (v 18)) := rfl
@[go_sem] theorem cf_19 (v : Nat → Int) : (cf v)[19]? = some (.int .i64 (v 19)) := rfl
set_option maxRecDepth 1000000 in
theorem nm_ne {k : Nat} (hk : k < 20) (v : Nat → Int) (tp : Int) : ∃ x : ByteArray, (parts v tp (v 9 == 0) (v 13 == -1000))[k * 2]? = some (.string x) ∧ x.toList.isEmpty = false ∧ ∃ b, (parts v tp (v 9 == 0) (v 13 == -1000))[k * 2 + 1]? = some (.bool b) ∧ (pbs v tp)[k]? = some b :=
  match k, hk with
  | 0, _ => ⟨_, rfl, by rw [← decide_eq_emptyBytes]; decide, _, rfl, rfl⟩
  | 1, _ => ⟨_, rfl, by rw [← decide_eq_emptyBytes]; decide, _, rfl, rfl⟩
  | 2, _ => ⟨_, rfl, by rw [← decide_eq_emptyBytes]; decide, _, rfl, rfl⟩
  | 3, _ => ⟨_, rfl, by rw [← decide_eq_emptyBytes]; decide, _, rfl, rfl⟩
  | 4, _ => ⟨_, rfl, by rw [← decide_eq_emptyBytes]; decide, _, rfl, rfl⟩
  | 5, _ => ⟨_, rfl, by rw [← decide_eq_emptyBytes]; decide, _, rfl, rfl⟩
  | 6, _ => ⟨_, rfl, by rw [← decide_eq_emptyBytes]; decide, _, rfl, rfl⟩
  | 7, _ => ⟨_, rfl, by rw [← decide_eq_emptyBytes]; decide, _, rfl, rfl⟩
  | 8, _ => ⟨_, rfl, by rw [← decide_eq_emptyBytes]; decide, _, rfl, rfl⟩
  | 9, _ => ⟨_, rfl, by rw [← decide_eq_emptyBytes]; decide, _, rfl, rfl⟩
  | 10, _ => ⟨_, rfl, by rw [← decide_eq_emptyBytes]; decide, _, rfl, rfl⟩
  | 11, _ => ⟨_, rfl, by rw [← decide_eq_emptyBytes]; decide, _, rfl, rfl⟩
  | 12, _ => ⟨_, rfl, by rw [← decide_eq_emptyBytes]; decide, _, rfl, rfl⟩
  | 13, _ => ⟨_, rfl, by rw [← decide_eq_emptyBytes]; decide, _, rfl, rfl⟩
  | 14, _ => ⟨_, rfl, by rw [← decide_eq_emptyBytes]; decide, _, rfl, rfl⟩
  | 15, _ => ⟨_, rfl, by rw [← decide_eq_emptyBytes]; decide, _, rfl, rfl⟩
  | 16, _ => ⟨_, rfl, by rw [← decide_eq_emptyBytes]; decide, _, rfl, rfl⟩
  | 17, _ => ⟨_, rfl, by rw [← decide_eq_emptyBytes]; decide, _, rfl, rfl⟩
  | 18, _ => ⟨_, rfl, by rw [← decide_eq_emptyBytes]; decide, _, rfl, rfl⟩
  | 19, _ => ⟨_, rfl, by rw [← decide_eq_emptyBytes]; decide, _, rfl, rfl⟩
  | n + 20, h => absurd h (by omega)
theorem pbs_len (v : Nat → Int) (tp : Int) : (pbs v tp).length = 20 := rfl
theorem all_false {l : List Bool} {k : Nat} (h : l[k]? = some false) : l.all id = false := by
  rw [List.all_eq_false]
  exact ⟨false, List.mem_of_getElem? h, by simp⟩
theorem all_true {l : List Bool} {n : Nat} (hn : l.length = n) (h : ∀ i, i < n → l[i]? = some true) : l.all id = true := by
  rw [List.all_eq_true]
  intro b hb
  obtain ⟨i, hi⟩ := List.getElem?_of_mem hb
  have := h i (by have := (List.getElem?_eq_some_iff.1 hi).1; omega)
  rw [hi] at this
  cases this
  rfl
set_option maxHeartbeats 4000000 in
set_option maxRecDepth 1000000 in
theorem wrong_any (v : Nat → Int) (w : World) : Calls Tryz.prog 39 #[.agg (cf v)] w fun e w' => ∃ s, e = .returned (.string s) ∧ s.toList.isEmpty = mayB v ∧ Chg No w w' := by
  have hb0 := Blk.new w (cf v) 24
  have HC : Hid (Chg No w (w.alloc (.cells (cf v) 24))) := (Chg.refl No w).alloc _
  by_cases h9 : v 9 = 0
  · have k9 : (v 9 == 0) = true := by simp [h9]
    have kn : (v 9 != 0) = false := by simp [h9]
    have ht : topI v = 100 := by unfold topI; rw [k9]; rfl
    have HT := Lib.hid ht
    go_enter Tryz.func39, Tryz.ntmps39
    go_wp2_with fail
    generalize w.alloc (.cells (cf v) 24) = w1 at *
    generalize w.heap.size = B at *
    simp only [List.append_eq, List.cons_append, List.nil_append]
    refine wp_wrong (v := v) rfl rfl rfl rfl rfl hb0 (fun w2 hc hp => ?_)
    generalize w1.heap.size = N at *
    simp only [lay, puts, List.setIfInBounds_toArray, List.set_cons_succ, List.set_cons_zero]
    have HC2 := Lib.hid (HC.out.trans hc)
    have HP := Lib.hid hp
    clear hb0 HC hc hp ht
    go_wp2_with fail
    go_loopw [2, 131] (fun r i wr => ∃ k : Nat, k ≤ 20 ∧ r = .string ⟨#[]⟩ ∧ i = .int .i64 k ∧ Hid (Chg No w wr) ∧ Hid (Blk wr N (parts v (100) (v 9 == 0) (v 13 == -1000)) 126) ∧ Hid (∀ i, i < k → (pbs v (topI v))[i]? = some true)) (fun _ i _ => 20 - (intOf i).toNat)
    case atStart => exact ⟨0, Nat.zero_le _, rfl, rfl, HC2.out, HP.out, fun i hi => absurd hi (by omega)⟩
    case round =>
      obtain ⟨k, hk, rfl, rfl, HC, HB, HA⟩ := hrel
      by_cases hlt : k < 20
      · obtain ⟨x, hx, hne, b, hb, hp⟩ := nm_ne hlt v (100)
        have e0 : wr.cell? ⟨N, k * 2, none⟩ = some (.string x) := by rw [Blk.cell HB.out]; exact hx
        have e1 : wr.cell? ⟨N, k * 2 + 1, none⟩ = some (.bool b) := by rw [Blk.cell HB.out]; exact hb
        have HPB : Hid ((pbs v (topI v))[k]? = some b) := by rw [HT.out]; exact hp
        have HNE := Lib.hid hne
        clear hx hne hb hp
        cases b with
        | false =>
          go_wp2_with fail
          go_ret
          exact ⟨x, rfl, by rw [HNE.out]; exact (all_false HPB.out).symm, HC.out.alloc _⟩
        | true =>
          go_wp2_with fail
          go_roundw
          case rel =>
            refine ⟨k + 1, by omega, rfl, by go_num, HC.out.alloc _, HB.out.alloc _, fun i hi => ?_⟩
            by_cases e : i = k
            · rw [e]; exact HPB.out
            · exact HA.out i (by omega)
          case measure => simp [intOf]; omega
      · obtain rfl : k = 20 := by omega
        go_wp2_with fail
        go_ret
        exact ⟨_, rfl, by rw [← decide_eq_emptyBytes]; exact (all_true (pbs_len _ _) HA.out).symm, HC.out⟩
  · have k9 : (v 9 == 0) = false := by simp [h9]
    have kn : (v 9 != 0) = true := by simp [h9]
    have ht : topI v = v 9 := by unfold topI; rw [k9]; rfl
    have HT := Lib.hid ht
    go_enter Tryz.func39, Tryz.ntmps39
    go_wp2_with fail
    generalize w.alloc (.cells (cf v) 24) = w1 at *
    generalize w.heap.size = B at *
    simp only [List.append_eq, List.cons_append, List.nil_append]
    refine wp_wrong (v := v) rfl rfl rfl rfl rfl hb0 (fun w2 hc hp => ?_)
    generalize w1.heap.size = N at *
    simp only [lay, puts, List.setIfInBounds_toArray, List.set_cons_succ, List.set_cons_zero]
    have HC2 := Lib.hid (HC.out.trans hc)
    have HP := Lib.hid hp
    clear hb0 HC hc hp ht
    go_wp2_with fail
    go_loopw [2, 131] (fun r i wr => ∃ k : Nat, k ≤ 20 ∧ r = .string ⟨#[]⟩ ∧ i = .int .i64 k ∧ Hid (Chg No w wr) ∧ Hid (Blk wr N (parts v (v 9) (v 9 == 0) (v 13 == -1000)) 126) ∧ Hid (∀ i, i < k → (pbs v (topI v))[i]? = some true)) (fun _ i _ => 20 - (intOf i).toNat)
    case atStart => exact ⟨0, Nat.zero_le _, rfl, rfl, HC2.out, HP.out, fun i hi => absurd hi (by omega)⟩
    case round =>
      obtain ⟨k, hk, rfl, rfl, HC, HB, HA⟩ := hrel
      by_cases hlt : k < 20
      · obtain ⟨x, hx, hne, b, hb, hp⟩ := nm_ne hlt v (v 9)
        have e0 : wr.cell? ⟨N, k * 2, none⟩ = some (.string x) := by rw [Blk.cell HB.out]; exact hx
        have e1 : wr.cell? ⟨N, k * 2 + 1, none⟩ = some (.bool b) := by rw [Blk.cell HB.out]; exact hb
        have HPB : Hid ((pbs v (topI v))[k]? = some b) := by rw [HT.out]; exact hp
        have HNE := Lib.hid hne
        clear hx hne hb hp
        cases b with
        | false =>
          go_wp2_with fail
          go_ret
          exact ⟨x, rfl, by rw [HNE.out]; exact (all_false HPB.out).symm, HC.out.alloc _⟩
        | true =>
          go_wp2_with fail
          go_roundw
          case rel =>
            refine ⟨k + 1, by omega, rfl, by go_num, HC.out.alloc _, HB.out.alloc _, fun i hi => ?_⟩
            by_cases e : i = k
            · rw [e]; exact HPB.out
            · exact HA.out i (by omega)
          case measure => simp [intOf]; omega
      · obtain rfl : k = 20 := by omega
        go_wp2_with fail
        go_ret
        exact ⟨_, rfl, by rw [← decide_eq_emptyBytes]; exact (all_true (pbs_len _ _) HA.out).symm, HC.out⟩
theorem ld24_is {w : World} {B : Nat} {cs : Array Value} (h : rowOf w B 0 20 = some (.agg cs)) : ld24 (.pointer (some ⟨B, 0, none⟩)) w = .ok (.value (.agg cs)) w := by
  simp [ld24, h]
set_option maxHeartbeats 1000000 in
theorem may_any (v : Nat → Int) (w : World) : Calls Tryz.prog 16 #[.agg (cf v)] w fun e w' => e = .returned (.bool (mayB v)) ∧ Chg No w w' := by
  have hr := rowOf_blk (Blk.new w (cf v) 24)
  rw [cf_size] at hr
  have HC : Hid (Chg No w (w.alloc (.cells (cf v) 24))) := (Chg.refl No w).alloc _
  go_enter Tryz.func16, Tryz.ntmps16
  go_wp2_with fail
  generalize w.alloc (.cells (cf v) 24) = w1 at *
  clear hr
  refine (wrong_any v w1).mono ?_
  rintro e w2 ⟨s, rfl, hs, hc⟩
  have HC2 := Lib.hid (HC.out.trans hc)
  clear hc
  go_wp2_with fail
  go_ret
  exact ⟨by rw [← hs]; rfl, HC2.out⟩
end Go.Proofs.YtdgphoemjeakaaaGreatDoor.Mg
namespace Go.Proofs.YtdgphoemjeakaaaGreatDoor.Wk
open P
open Go.RowKit K Mg
abbrev Duo (w : World) (e : Ending) (w' : World) : Prop := ∃ x c : Int, e = .returned (.tuple #[.int .i64 x, .int .i64 c]) ∧ Chg No w w'
abbrev Uno (w : World) (e : Ending) (w' : World) : Prop := ∃ x : Int, e = .returned (.int .i64 x) ∧ Chg No w w'
@[local go_sem ↓] theorem ta_way (b : Bool) (w : World) : (Instr.typeAssert (.iface 4 (.bool b)) 20 4 true).run Tryz.prog w = .ok (.tuple #[.bool b, .bool true]) w := by kernel_rfl
set_option maxHeartbeats 1000000 in
theorem end_w (b : Bool) (w : World) : Calls Tryz.prog 74 #[.iface 4 (.bool b)] w fun e w' => ∃ x c : Int, e = .returned (.tuple #[.int .i64 x, .int .i64 c]) ∧ w' = w := by
  cases b
  all_goals
    go_enter Tryz.func74, Tryz.ntmps74
    go_wp2_with fail
    go_ret2
    exact ⟨_, _, rfl, rfl⟩
set_option maxHeartbeats 1000000 in
theorem add_w (a b : Int) (w : World) : Calls Tryz.prog 93 #[.int .i64 a, .int .i64 b] w (Duo w) := by
  go_enter Tryz.func93, Tryz.ntmps93
  go_wp2_with fail
  all_goals first
    | (refine (end_w _ _).mono ?_; rintro e w1 ⟨x, c, rfl, rfl⟩; go_wp2_with fail; go_ret2; exact ⟨_, _, rfl, Chg.refl _ _⟩)
    | (go_ret2; exact ⟨_, _, rfl, Chg.refl _ _⟩)
set_option maxHeartbeats 1000000 in
theorem half_w (a b : Int) (w : World) : Calls Tryz.prog 164 #[.int .i64 a, .int .i64 b] w (Duo w) := by
  by_cases hb : b = 0
  · subst hb
    go_enter Tryz.func164, Tryz.ntmps164
    go_wp2_with fail
    all_goals first
      | (refine (end_w _ _).mono ?_; rintro e w1 ⟨x, c, rfl, rfl⟩; go_wp2_with fail; go_ret2; exact ⟨_, _, rfl, Chg.refl _ _⟩)
      | (go_ret2; exact ⟨_, _, rfl, Chg.refl _ _⟩)
  · have hb2 : (b == 0) = false := beq_eq_false_iff_ne.2 hb
    go_enter Tryz.func164, Tryz.ntmps164
    go_wp2_with fail
    all_goals first
      | (refine (end_w _ _).mono ?_; rintro e w1 ⟨x, c, rfl, rfl⟩; go_wp2_with fail; go_ret2; exact ⟨_, _, rfl, Chg.refl _ _⟩)
      | (go_ret2; exact ⟨_, _, rfl, Chg.refl _ _⟩)
set_option maxHeartbeats 1000000 in
theorem up_w (a b : Int) (w : World) (hb : b ≠ 0) : Calls Tryz.prog 134 #[.int .i64 a, .int .i64 b] w (Duo w) := by
  have hb2 : ¬ b = 0 := hb
  go_enter Tryz.func134, Tryz.ntmps134
  go_wp2_with fail
  refine (half_w _ _ _).mono ?_
  rintro e w1 ⟨x, c, rfl, hc⟩
  have HC := Lib.hid hc
  clear hc
  go_wp2_with fail
  all_goals (go_ret2; exact ⟨_, _, rfl, HC.out⟩)
@[go_sem] theorem rowOf_newv (w : World) (v : Nat → Int) : rowOf (w.alloc (.cells (cf v) 24)) w.heap.size 0 20 = some (.agg (cf v)) := rowOf_blk (Blk.new w (cf v) 24)
theorem may_bd {v : Nat → Int} (h : mayB v = true) : (10 ≤ v 0 ∧ v 0 ≤ 1000000) ∧ (100 ≤ v 1 ∧ v 1 ≤ 1000) ∧ (6 ≤ v 2 ∧ v 2 ≤ 600) ∧ (1 ≤ v 3 ∧ v 3 ≤ v 2) ∧ (1 ≤ v 4 ∧ v 4 ≤ v 3) ∧ (1001 ≤ v 6 ∧ v 6 ≤ 1000000) ∧ (1001 ≤ v 7 ∧ v 7 ≤ 1000000) ∧ (v 9 = 0 ∨ 1 ≤ v 9 ∧ v 9 ≤ 100) ∧ (0 ≤ v 10 ∧ v 10 ≤ 100) ∧ (0 ≤ v 12 ∧ v 12 ≤ 600) ∧ (1 ≤ v 14 ∧ v 14 ≤ 1000) ∧ (0 ≤ v 15 ∧ v 15 ≤ 200) ∧ (1 ≤ v 16 ∧ v 16 ≤ 10000) ∧ (0 ≤ v 17 ∧ v 17 ≤ 100) := by
  unfold mayB pbs wi topI at h
  simp only [List.all_cons, List.all_nil, id, Bool.and_true, Bool.and_eq_true, Bool.or_eq_true, decide_eq_true_eq, beq_iff_eq] at h
  obtain ⟨h0, h1, h2, h3, h4, h5, h6, h7, h8, h9, h10, h11, h12, h13, h14, h15, h16, h17, h18, h19⟩ := h
  refine ⟨h0, h1, h2, h3, h4, h6, h7, ?_, ?_, h12, h14, h15, h16, h17⟩
  · omega
  · split at h10 <;> omega
end Go.Proofs.YtdgphoemjeakaaaGreatDoor.Wk
namespace Go.Proofs.YtdgphoemjeakaaaGreatDoor.Y
open Go.RowKit K P U Mg Wk
def vdef (k : Nat) : Int := [10000, 700, 60, 6, 1, 2000, 10000, 2000, 0, 0, 1, 30, 0, 20000, 10, 100, 60, 3, 0, 0].getD k 0
structure Dd where
  b0 : List R.Bk
  b1 : List R.Bk
  nw : Int
  wl : List Dl.Wish
  hl : Int
  si : Int
  mo : Int
  dl : Int
def dOf (s : V.Sys) : Dd := ⟨s.b0, s.b1, s.nw, s.wl, s.hl, s.si, s.mo, s.dl⟩
def withD (s : V.Sys) (x : Dd) : V.Sys := { s with b0 := x.b0, b1 := x.b1, nw := x.nw, wl := x.wl, hl := x.hl, si := x.si, mo := x.mo, dl := x.dl }
@[irreducible] def nxD (x : Dd) (now : Int) (r : Nat) := De.nextD 20000 10 x.b0 x.b1 x.wl x.si x.mo now r
structure Env where
  ex : Prop
  rep : (Nat → Int) → Nat → Dd → Rep
  ok : Int → Dd → Prop
  mid : Int → Dd → Prop
  good : ∀ v d x, U.Good (rep v d x)
  wide : ∀ v d x, U.Wide (rep v d x)
  lose : ∀ x now, 0 ≤ now → ok now x → mid (now + 1) x
  put : ∀ (v : Nat → Int) (d : Nat) (x : Dd) (now val : Int) (w : World) (C : Nat → Prop), mayB v = true → (ex → v = vdef) → 0 ≤ now → now + 1 ≤ 1000000 → ok now x → 0 ≤ val → val ≤ 1125899906842624 → rep v d x w C →
    Calls Tryz.prog 60 #[.pointer (some ⟨d, 0, none⟩), .int .i64 (now + 1), .int .i64 val] w fun e w' => ∃ (c : Int) (x' : Dd), e = .returned (.int .i64 c) ∧ rep v d x' w' (K.nx C w w') ∧ Chg C w w' ∧ mid (now + 1) x' ∧ (ex → x' = { x with b0 := Me.putB 60 (now + 1) val x.b0, b1 := Me.putB 6 (now + 1) val x.b1, nw := now + 1 })
  next : ∀ (v : Nat → Int) (d : Nat) (x : Dd) (now : Int) (r : Nat) (w : World) (C : Nat → Prop), mayB v = true → (ex → v = vdef) → 0 ≤ now → now ≤ 1000000 → mid now x → r ≤ 100 → rep v d x w C →
    Calls Tryz.prog 63 #[.pointer (some ⟨d, 0, none⟩), .int .i64 now, .int .i64 r] w fun e w' => ∃ (st qu wn ex' c : Int) (pn : Bool) (x' : Dd), e = .returned (.tuple #[.agg #[.int .i64 now, .int .i64 st, .int .i64 qu, .int .i64 wn, .bool pn, .int .i64 ex'], .int .i64 c]) ∧ rep v d x' w' (K.nx C w w') ∧ Chg C w w' ∧ ok now x' ∧
      (ex → st = (nxD x now r).stable ∧ qu = (nxD x now r).quick ∧ wn = (nxD x now r).want ∧ pn = (nxD x now r).panic ∧ ex' = (nxD x now r).excess ∧
        x' = { x with wl := (nxD x now r).l, hl := now, si := (nxD x now r).since, mo := (nxD x now r).most, dl := now })
  over : ∀ (v : Nat → Int) (d : Nat) (x : Dd) (w : World) (C : Nat → Prop), rep v d x w C → Calls Tryz.prog 36 #[.pointer (some ⟨d, 0, none⟩)] w fun e w' => ∃ b : Bool, e = .returned (.bool b) ∧ Chg No w w' ∧ (ex → b = false)
  new : ∀ (v : Nat → Int) (w : World), mayB v = true → (ex → v = vdef) → Calls Tryz.prog 19 #[.agg (cf v)] w fun e w' => ∃ (d : Nat) (x : Dd), e = .returned (.pointer (some ⟨d, 0, none⟩)) ∧ rep v d x w' (fun k => w.heap.size ≤ k ∧ k < w'.heap.size) ∧ Chg No w w' ∧ ok 0 x ∧ (ex → x = ⟨[], [], -1, [], 0, -1, 0, 0⟩)
end Go.Proofs.YtdgphoemjeakaaaGreatDoor.Y
namespace Go.Proofs.YtdgphoemjeakaaaGreatDoor.Y
open Me (mw)
open Go.RowKit K P U Mg
def rcells (r : V.Req) : List Value := [.int .i64 r.came, .int .i64 r.since, .int .i64 r.st, .int .i64 r.pod]
def reqs (l : List V.Req) : List Value := l.flatMap rcells
theorem reqs_snoc (l : List V.Req) (q : V.Req) : reqs (l ++ [q]) = reqs l ++ rcells q := by simp [reqs]
theorem reqs_cons (q : V.Req) (l : List V.Req) : reqs (q :: l) = rcells q ++ reqs l := by simp [reqs]
theorem reqs_at (l : List V.Req) (i j : Nat) (q : V.Req) (h : l[i]? = some q) (hj : j < 4) : (reqs l)[i * 4 + j]? = (rcells q)[j]? := by
  induction l generalizing i with
  | nil => simp at h
  | cons a l ih =>
    cases i with
    | zero =>
      simp at h
      subst h
      rw [reqs_cons, List.getElem?_append_left (by simp [rcells]; omega)]
      simp
    | succ i =>
      simp at h
      rw [reqs_cons, List.getElem?_append_right (by simp [rcells]; omega), ← ih i h]
      congr 1
      simp [rcells]
      omega
theorem reqs_set (l : List V.Req) (i j : Nat) (q q' : V.Req) (u : Value) (h : l[i]? = some q) (hj : j < 4) (hq : (rcells q).set j u = rcells q') : (reqs l).set (i * 4 + j) u = reqs (l.set i q') := by
  induction l generalizing i with
  | nil => simp at h
  | cons a l ih =>
    cases i with
    | zero =>
      simp at h
      subst h
      rw [reqs_cons, List.set_cons_zero, reqs_cons, List.set_append_left _ _ (by simp [rcells]; omega), Nat.zero_mul, Nat.zero_add, hq]
    | succ i =>
      simp at h
      have e : (i + 1) * 4 + j = (rcells a).length + (i * 4 + j) := by simp [rcells]; omega
      rw [reqs_cons, List.set_cons_succ, reqs_cons, e, List.set_append_right _ _ (by omega), Nat.add_sub_cancel_left, ih i h]
theorem rcells_one (q : V.Req) : ∀ u ∈ rcells q, u.oneCell' = true := by
  intro u hu
  simp [rcells] at hu
  rcases hu with rfl | rfl | rfl | rfl <;> rfl
theorem modify_at {α : Type} (f : α → α) : ∀ (l : List α) (k : Nat) (x : α), l[k]? = some x → l.modify k f = l.set k (f x)
  | [], _, _, h => by simp at h
  | a :: l, 0, x, h => by simp at h; subst h; rfl
  | a :: l, k + 1, x, h => by
    simp at h
    rw [List.modify_succ_cons, List.set_cons_succ, modify_at f l k x h]
theorem req_cells {w : World} {S : Nat → Prop} {l : List V.Req} {g o c : Nat} (h : Own w S 48 4 (.slice (some ⟨g, o, none⟩) l.length c) l.length (reqs l)) {n : Nat} {q : V.Req} (hq : l[n]? = some q) :
    w.cell? ⟨g, o + n * 4, none⟩ = some (.int .i64 q.came) ∧ w.cell? ⟨g, o + n * 4 + 1, none⟩ = some (.int .i64 q.since) ∧ w.cell? ⟨g, o + n * 4 + 2, none⟩ = some (.int .i64 q.st) ∧ w.cell? ⟨g, o + n * 4 + 3, none⟩ = some (.int .i64 q.pod) := by
  have hn : n < l.length := (List.getElem?_eq_some_iff.1 hq).1
  have h0 := h.cellAt (n * 4) (by omega)
  have h1 := h.cellAt (n * 4 + 1) (by omega)
  have h2 := h.cellAt (n * 4 + 2) (by omega)
  have h3 := h.cellAt (n * 4 + 3) (by omega)
  rw [reqs_at _ _ _ _ hq (by omega)] at h1 h2 h3
  rw [show n * 4 = n * 4 + 0 from rfl, reqs_at _ _ _ _ hq (by omega)] at h0
  exact ⟨h0, h1, h2, h3⟩
def OwnR (e : TypeId) (size : Nat) (v : Value) (n : Nat) (xs : List Value) : Rep := fun w S => (∀ k, S k → k < w.heap.size) ∧ Own w S e size v n xs
theorem OwnR.good {e : TypeId} {size : Nat} {v : Value} {n : Nat} {xs : List Value} : U.Good (OwnR e size v n xs) :=
  ⟨fun h c hd => ⟨fun k hk => Nat.lt_of_lt_of_le (h.1 k hk) c.size, h.2.chg c hd⟩, fun h => h.1⟩
theorem OwnR.wide {e : TypeId} {size : Nat} {v : Value} {n : Nat} {xs : List Value} : U.Wide (OwnR e size v n xs) :=
  ⟨fun h hs hb => ⟨hb, h.2.mono fun k _ hk => hs k hk⟩⟩
def LifeR (p : Nat) (ps : List M.Pod) (made : Int) : Rep := fun w S => A.Life w S p ps made
theorem LifeR.good {p : Nat} {ps : List M.Pod} {made : Int} : U.Good (LifeR p ps made) := ⟨fun h c hd => A.Life.chg h c hd, fun h => A.Life.bd h⟩
theorem LifeR.wide {p : Nat} {ps : List M.Pod} {made : Int} : U.Wide (LifeR p ps made) := ⟨fun h hs hb => A.Life.mono h (fun k _ h => hs k h) hb⟩
def QueueR (p : Nat) (l : List (Int × Int)) (dp last : Int) : Rep := fun w S => B.Queue w S p l dp last
theorem QueueR.good {p : Nat} {l : List (Int × Int)} {dp last : Int} : U.Good (QueueR p l dp last) := ⟨fun h c hd => B.Queue.chg h c hd, fun ⟨_, h⟩ => h.bd⟩
theorem QueueR.wide {p : Nat} {l : List (Int × Int)} {dp last : Int} : U.Wide (QueueR p l dp last) := ⟨fun h hs hb => B.Queue.mono h (fun k _ h => hs k h) hb⟩
def sc (v : Nat → Int) (g : Nat) (rv tv : Value) (s : V.Sys) : Array Value := mw (cf v) [.int .i64 s.now, .slice (some ⟨g, 0, none⟩) 3 3, rv, .int .i64 s.ld.t, .int .i64 s.ld.stable, .int .i64 s.ld.quick, .int .i64 s.ld.want, .bool s.ld.panic, .int .i64 s.ld.excess, .int .i64 s.want, .bool s.proxy, .int .i64 s.zs, .int .i64 s.lost, tv]
def pc (l q d : Nat) : Array Value := #[.iface 52 (.pointer (some ⟨l, 0, none⟩)), .iface 54 (.pointer (some ⟨q, 0, none⟩)), .iface 56 (.pointer (some ⟨d, 0, none⟩))]
structure At where
  E : Env
  v : Nat → Int
  dv : Nat → Int
  dp : Int
  p : Nat
  g : Nat
  l : Nat
  q : Nat
  d : Nat
abbrev DecR (a : At) (s : V.Sys) : Rep := a.E.rep a.dv a.d (dOf s)
def Y2 (a : At) (cs : Array Value) (rv tv : Value) (tn : Nat) (tx : List Value) (s : V.Sys) : Rep :=
  Two (One a.p cs 66) (Two (One a.g (pc a.l a.q a.d) 20) (Two (LifeR a.l s.pods s.made) (Two (QueueR a.q s.q a.dp s.ql) (Two (DecR a s) (Two (OwnR 48 4 rv s.rs.length (reqs s.rs)) (OwnR 38 15 tv tn tx))))))
section
variable {a : At} {cs : Array Value} {rv tv : Value} {tn : Nat} {tx : List Value} {s : V.Sys} {w : World} {S : Nat → Prop}
theorem g6 : U.Good (Two (OwnR 48 4 rv s.rs.length (reqs s.rs)) (OwnR 38 15 tv tn tx)) := Two.good OwnR.good OwnR.good
theorem g5 : U.Good (Two (DecR a s) (Two (OwnR 48 4 rv s.rs.length (reqs s.rs)) (OwnR 38 15 tv tn tx))) := Two.good (a.E.good _ _ _) g6
theorem g4 : U.Good (Two (QueueR a.q s.q a.dp s.ql) (Two (DecR a s) (Two (OwnR 48 4 rv s.rs.length (reqs s.rs)) (OwnR 38 15 tv tn tx)))) := Two.good QueueR.good g5
theorem g3 : U.Good (Two (LifeR a.l s.pods s.made) (Two (QueueR a.q s.q a.dp s.ql) (Two (DecR a s) (Two (OwnR 48 4 rv s.rs.length (reqs s.rs)) (OwnR 38 15 tv tn tx))))) := Two.good LifeR.good g4
theorem g2 : U.Good (Two (One a.g (pc a.l a.q a.d) 20) (Two (LifeR a.l s.pods s.made) (Two (QueueR a.q s.q a.dp s.ql) (Two (DecR a s) (Two (OwnR 48 4 rv s.rs.length (reqs s.rs)) (OwnR 38 15 tv tn tx)))))) := Two.good (One.good _ _ _) g3
theorem Y2.good : U.Good (Y2 a cs rv tv tn tx s) := Two.good (One.good _ _ _) g2
theorem Y2.wide : U.Wide (Y2 a cs rv tv tn tx s) := Two.wide
theorem Y2.blk (x : Y2 a cs rv tv tn tx s w S) : Blk w a.p cs 66 := by
  obtain ⟨A, h1, _⟩ := Two.left g2 x
  exact h1.2.2
theorem Y2.own (x : Y2 a cs rv tv tn tx s w S) : S a.p := by
  obtain ⟨A, h1, h2, _⟩ := Two.left g2 x
  exact h2 _ h1.2.1
theorem Y2.gblk (x : Y2 a cs rv tv tn tx s w S) : Blk w a.g (pc a.l a.q a.d) 20 := by
  obtain ⟨A, h1, _⟩ := Two.right (One.good _ _ _) x
  obtain ⟨A, h1, _⟩ := Two.left g3 h1
  exact h1.2.2
theorem Y2.cell (x : Y2 a cs rv tv tn tx s w S) (j : Nat) (v : Value) : Y2 a (cs.setIfInBounds j v) rv tv tn tx s (w.setCell ⟨a.p, j, none⟩ v) (K.nx S w (w.setCell ⟨a.p, j, none⟩ v)) ∧ Chg S w (w.setCell ⟨a.p, j, none⟩ v) := by
  obtain ⟨A, h1, _, back⟩ := Two.left g2 x
  obtain ⟨g1, g2⟩ := h1.set j v
  exact back _ _ g1 g2
theorem Y2.cells (x : Y2 a cs rv tv tn tx s w S) : ∃ A : Nat → Prop, One a.p cs 66 w A ∧ ∀ (cs' : Array Value) (w' : World), One a.p cs' 66 w' (K.nx A w w') → Chg A w w' → Y2 a cs' rv tv tn tx s w' (K.nx S w w') ∧ Chg S w w' := by
  obtain ⟨A, h1, _, back⟩ := Two.left g2 x
  exact ⟨A, h1, fun cs' w' h c => back _ _ h c⟩
theorem Y2.life (x : Y2 a cs rv tv tn tx s w S) : ∃ C : Nat → Prop, A.Life w C a.l s.pods s.made ∧ ∀ (ps : List M.Pod) (made : Int) (w' : World), A.Life w' (K.nx C w w') a.l ps made → Chg C w w' →
    Y2 a cs rv tv tn tx { s with pods := ps, made := made } w' (K.nx S w w') ∧ Chg S w w' := by
  obtain ⟨A1, h1, _, b1⟩ := Two.right (One.good _ _ _) x
  obtain ⟨A2, h2, _, b2⟩ := Two.right (One.good _ _ _) h1
  obtain ⟨A3, h3, _, b3⟩ := Two.left g4 h2
  refine ⟨A3, h3, fun ps made w' h c => ?_⟩
  obtain ⟨e1, e2⟩ := b3 (LifeR a.l ps made) w' h c
  obtain ⟨e1, e2⟩ := b2 _ w' e1 e2
  exact b1 _ w' e1 e2
theorem Y2.queue (x : Y2 a cs rv tv tn tx s w S) : ∃ C : Nat → Prop, B.Queue w C a.q s.q a.dp s.ql ∧ ∀ (l : List (Int × Int)) (last : Int) (w' : World), B.Queue w' (K.nx C w w') a.q l a.dp last → Chg C w w' →
    Y2 a cs rv tv tn tx { s with q := l, ql := last } w' (K.nx S w w') ∧ Chg S w w' := by
  obtain ⟨A1, h1, _, b1⟩ := Two.right (One.good _ _ _) x
  obtain ⟨A2, h2, _, b2⟩ := Two.right (One.good _ _ _) h1
  obtain ⟨A3, h3, _, b3⟩ := Two.right LifeR.good h2
  obtain ⟨A4, h4, _, b4⟩ := Two.left g5 h3
  refine ⟨A4, h4, fun l last w' h c => ?_⟩
  obtain ⟨e1, e2⟩ := b4 (QueueR a.q l a.dp last) w' h c
  obtain ⟨e1, e2⟩ := b3 _ w' e1 e2
  obtain ⟨e1, e2⟩ := b2 _ w' e1 e2
  exact b1 _ w' e1 e2
theorem Y2.dec (x : Y2 a cs rv tv tn tx s w S) : ∃ C : Nat → Prop, DecR a s w C ∧ ∀ (y : Dd) (w' : World), a.E.rep a.dv a.d y w' (K.nx C w w') → Chg C w w' → Y2 a cs rv tv tn tx (withD s y) w' (K.nx S w w') ∧ Chg S w w' := by
  obtain ⟨A1, h1, _, c1⟩ := Two.right (One.good _ _ _) x
  obtain ⟨A2, h2, _, c2⟩ := Two.right (One.good _ _ _) h1
  obtain ⟨A3, h3, _, c3⟩ := Two.right LifeR.good h2
  obtain ⟨A4, h4, _, c4⟩ := Two.right QueueR.good h3
  obtain ⟨A5, h5, _, c5⟩ := Two.left g6 h4
  refine ⟨A5, h5, fun y w' h c => ?_⟩
  obtain ⟨e1, e2⟩ := c5 (a.E.rep a.dv a.d y) w' h c
  obtain ⟨e1, e2⟩ := c4 _ w' e1 e2
  obtain ⟨e1, e2⟩ := c3 _ w' e1 e2
  obtain ⟨e1, e2⟩ := c2 _ w' e1 e2
  exact c1 _ w' e1 e2
theorem Y2.req (x : Y2 a cs rv tv tn tx s w S) : ∃ C : Nat → Prop, OwnR 48 4 rv s.rs.length (reqs s.rs) w C ∧ (∀ k, C k → S k) ∧ ∀ (rv' : Value) (rs : List V.Req) (w' : World), OwnR 48 4 rv' rs.length (reqs rs) w' (K.nx C w w') → Chg C w w' →
    Y2 a cs rv' tv tn tx { s with rs := rs } w' (K.nx S w w') ∧ Chg S w w' := by
  obtain ⟨A1, h1, i1, c1⟩ := Two.right (One.good _ _ _) x
  obtain ⟨A2, h2, i2, c2⟩ := Two.right (One.good _ _ _) h1
  obtain ⟨A3, h3, i3, c3⟩ := Two.right LifeR.good h2
  obtain ⟨A4, h4, i4, c4⟩ := Two.right QueueR.good h3
  obtain ⟨A5, h5, i5, c5⟩ := Two.right (a.E.good _ _ _) h4
  obtain ⟨A6, h6, i6, c6⟩ := Two.left OwnR.good h5
  refine ⟨A6, h6, fun k hk => i1 k (i2 k (i3 k (i4 k (i5 k (i6 k hk))))), fun rv' rs w' h c => ?_⟩
  obtain ⟨e1, e2⟩ := c6 (OwnR 48 4 rv' rs.length (reqs rs)) w' h c
  obtain ⟨e1, e2⟩ := c5 _ w' e1 e2
  obtain ⟨e1, e2⟩ := c4 _ w' e1 e2
  obtain ⟨e1, e2⟩ := c3 _ w' e1 e2
  obtain ⟨e1, e2⟩ := c2 _ w' e1 e2
  exact c1 _ w' e1 e2
theorem Y2.trace (x : Y2 a cs rv tv tn tx s w S) : ∃ C : Nat → Prop, OwnR 38 15 tv tn tx w C ∧ ∀ (tv' : Value) (tn' : Nat) (tx' : List Value) (w' : World), OwnR 38 15 tv' tn' tx' w' (K.nx C w w') → Chg C w w' →
    Y2 a cs rv tv' tn' tx' s w' (K.nx S w w') ∧ Chg S w w' := by
  obtain ⟨A1, h1, _, c1⟩ := Two.right (One.good _ _ _) x
  obtain ⟨A2, h2, _, c2⟩ := Two.right (One.good _ _ _) h1
  obtain ⟨A3, h3, _, c3⟩ := Two.right LifeR.good h2
  obtain ⟨A4, h4, _, c4⟩ := Two.right QueueR.good h3
  obtain ⟨A5, h5, _, c5⟩ := Two.right (a.E.good _ _ _) h4
  obtain ⟨A6, h6, _, c6⟩ := Two.right OwnR.good h5
  refine ⟨A6, h6, fun tv' tn' tx' w' h c => ?_⟩
  obtain ⟨e1, e2⟩ := c6 _ w' h c
  obtain ⟨e1, e2⟩ := c5 _ w' e1 e2
  obtain ⟨e1, e2⟩ := c4 _ w' e1 e2
  obtain ⟨e1, e2⟩ := c3 _ w' e1 e2
  obtain ⟨e1, e2⟩ := c2 _ w' e1 e2
  exact c1 _ w' e1 e2
end
end Go.Proofs.YtdgphoemjeakaaaGreatDoor.Y
namespace Go.Proofs.YtdgphoemjeakaaaGreatDoor.Y
open Go.RowKit K P U
set_option maxRecDepth 100000
def St (a : At) (S : Nat → Prop) (w0 : World) (cs : Array Value) (rv tv : Value) (tn : Nat) (tx : List Value) (s : V.Sys) (w : World) : Prop :=
  Y2 a cs rv tv tn tx s w (K.nx S w0 w) ∧ Chg S w0 w
section
variable {a : At} {S : Nat → Prop} {w0 : World} {cs cs' : Array Value} {rv rv' tv tv' : Value} {tn tn' : Nat} {tx tx' : List Value} {s s' : V.Sys} {w w' : World}
theorem St.start (x : Y2 a cs rv tv tn tx s w S) : St a S w cs rv tv tn tx s w := ⟨Y2.wide.nx' Y2.good x, Chg.refl _ _⟩
theorem St.next (h : St a S w0 cs rv tv tn tx s w) (x : Y2 a cs' rv' tv' tn' tx' s' w' (K.nx (K.nx S w0 w) w w')) (c : Chg (K.nx S w0 w) w w') : St a S w0 cs' rv' tv' tn' tx' s' w' := ⟨Y2.wide.nn x h.2.size, h.2.next c⟩
theorem St.no (h : St a S w0 cs rv tv tn tx s w) (c : Chg No w w') : St a S w0 cs rv tv tn tx s w' := h.next (Y2.wide.nx Y2.good h.1 c) c.of_no
theorem St.blk (h : St a S w0 cs rv tv tn tx s w) : Blk w a.p cs 66 := h.1.blk
theorem St.gblk (h : St a S w0 cs rv tv tn tx s w) : Blk w a.g (pc a.l a.q a.d) 20 := h.1.gblk
theorem St.own (h : St a S w0 cs rv tv tn tx s w) : K.nx S w0 w a.p := h.1.own
theorem St.cell (h : St a S w0 cs rv tv tn tx s w) (j : Nat) (v : Value) : St a S w0 (cs.setIfInBounds j v) rv tv tn tx s (w.setCell ⟨a.p, j, none⟩ v) := by
  obtain ⟨g1, g2⟩ := h.1.cell j v
  exact h.next g1 g2
theorem St.life (h : St a S w0 cs rv tv tn tx s w) : ∃ C : Nat → Prop, A.Life w C a.l s.pods s.made ∧ ∀ (ps : List M.Pod) (made : Int) (w' : World), A.Life w' (K.nx C w w') a.l ps made → Chg C w w' → St a S w0 cs rv tv tn tx { s with pods := ps, made := made } w' := by
  obtain ⟨C, h1, back⟩ := h.1.life
  refine ⟨C, h1, fun ps made w' x c => ?_⟩
  obtain ⟨g1, g2⟩ := back ps made w' x c
  exact h.next g1 g2
theorem St.queue (h : St a S w0 cs rv tv tn tx s w) : ∃ C : Nat → Prop, B.Queue w C a.q s.q a.dp s.ql ∧ ∀ (l : List (Int × Int)) (last : Int) (w' : World), B.Queue w' (K.nx C w w') a.q l a.dp last → Chg C w w' → St a S w0 cs rv tv tn tx { s with q := l, ql := last } w' := by
  obtain ⟨C, h1, back⟩ := h.1.queue
  refine ⟨C, h1, fun l last w' x c => ?_⟩
  obtain ⟨g1, g2⟩ := back l last w' x c
  exact h.next g1 g2
theorem St.dec (h : St a S w0 cs rv tv tn tx s w) : ∃ C : Nat → Prop, DecR a s w C ∧ ∀ (y : Dd) (w' : World), a.E.rep a.dv a.d y w' (K.nx C w w') → Chg C w w' → St a S w0 cs rv tv tn tx (withD s y) w' := by
  obtain ⟨C, h1, back⟩ := h.1.dec
  refine ⟨C, h1, fun y w' x c => ?_⟩
  obtain ⟨g1, g2⟩ := back y w' x c
  exact h.next g1 g2
theorem St.req (h : St a S w0 cs rv tv tn tx s w) : ∃ C : Nat → Prop, OwnR 48 4 rv s.rs.length (reqs s.rs) w C ∧ ∀ (rv' : Value) (rs : List V.Req) (w' : World), OwnR 48 4 rv' rs.length (reqs rs) w' (K.nx C w w') → Chg C w w' → St a S w0 cs rv' tv tn tx { s with rs := rs } w' := by
  obtain ⟨C, h1, _, back⟩ := h.1.req
  refine ⟨C, h1, fun rv' rs w' x c => ?_⟩
  obtain ⟨g1, g2⟩ := back rv' rs w' x c
  exact h.next g1 g2
theorem St.trace (h : St a S w0 cs rv tv tn tx s w) : ∃ C : Nat → Prop, OwnR 38 15 tv tn tx w C ∧ ∀ (tv' : Value) (tn' : Nat) (tx' : List Value) (w' : World), OwnR 38 15 tv' tn' tx' w' (K.nx C w w') → Chg C w w' → St a S w0 cs rv tv' tn' tx' s w' := by
  obtain ⟨C, h1, back⟩ := h.1.trace
  refine ⟨C, h1, fun tv' tn' tx' w' x c => ?_⟩
  obtain ⟨g1, g2⟩ := back tv' tn' tx' w' x c
  exact h.next g1 g2
theorem St.rq (h : St a S w0 cs rv tv tn tx s w) : ∃ C : Nat → Prop, Own w C 48 4 rv s.rs.length (reqs s.rs) := ⟨_, h.req.choose_spec.1.2⟩
end
theorem at_parts {a : At} {S : Nat → Prop} {w0 : World} {cs : Array Value} {rv tv : Value} {tn : Nat} {tx : List Value} {s : V.Sys} {w : World} (h : St a S w0 cs rv tv tn tx s w) (hg : cs[21]? = some (.slice (some ⟨a.g, 0, none⟩) 3 3)) :
    w.cell? ⟨a.p, 21, none⟩ = some (.slice (some ⟨a.g, 0, none⟩) 3 3) ∧ w.cell? ⟨a.g, 0, none⟩ = some (.iface 52 (.pointer (some ⟨a.l, 0, none⟩))) ∧ w.cell? ⟨a.g, 1, none⟩ = some (.iface 54 (.pointer (some ⟨a.q, 0, none⟩))) ∧ w.cell? ⟨a.g, 2, none⟩ = some (.iface 56 (.pointer (some ⟨a.d, 0, none⟩))) :=
  ⟨by rw [h.blk.cell]; exact hg, h.gblk.cell 0, h.gblk.cell 1, h.gblk.cell 2⟩
set_option maxHeartbeats 1000000 in
theorem pods_c (p g l q d : Nat) (w : World) (h0 : w.cell? ⟨p, 21, none⟩ = some (.slice (some ⟨g, 0, none⟩) 3 3)) (h1 : w.cell? ⟨g, 0, none⟩ = some (.iface 52 (.pointer (some ⟨l, 0, none⟩)))) (_ : w.cell? ⟨g, 1, none⟩ = some (.iface 54 (.pointer (some ⟨q, 0, none⟩)))) (_ : w.cell? ⟨g, 2, none⟩ = some (.iface 56 (.pointer (some ⟨d, 0, none⟩)))) :
    Calls Tryz.prog 21 #[.pointer (some ⟨p, 0, none⟩)] w fun e w' => e = .returned (.pointer (some ⟨l, 0, none⟩)) ∧ Chg No w w' := by
  go_enter Tryz.func21, Tryz.ntmps21
  go_wp2
  go_ret
  exact ⟨rfl, Chg.refl _ _⟩
set_option maxHeartbeats 1000000 in
theorem waits_c (p g l q d : Nat) (w : World) (h0 : w.cell? ⟨p, 21, none⟩ = some (.slice (some ⟨g, 0, none⟩) 3 3)) (_ : w.cell? ⟨g, 0, none⟩ = some (.iface 52 (.pointer (some ⟨l, 0, none⟩)))) (h1 : w.cell? ⟨g, 1, none⟩ = some (.iface 54 (.pointer (some ⟨q, 0, none⟩)))) (_ : w.cell? ⟨g, 2, none⟩ = some (.iface 56 (.pointer (some ⟨d, 0, none⟩)))) :
    Calls Tryz.prog 33 #[.pointer (some ⟨p, 0, none⟩)] w fun e w' => e = .returned (.pointer (some ⟨q, 0, none⟩)) ∧ Chg No w w' := by
  go_enter Tryz.func33, Tryz.ntmps33
  go_wp2
  go_ret
  exact ⟨rfl, Chg.refl _ _⟩
set_option maxHeartbeats 1000000 in
theorem decides_c (p g l q d : Nat) (w : World) (h0 : w.cell? ⟨p, 21, none⟩ = some (.slice (some ⟨g, 0, none⟩) 3 3)) (_ : w.cell? ⟨g, 0, none⟩ = some (.iface 52 (.pointer (some ⟨l, 0, none⟩)))) (_ : w.cell? ⟨g, 1, none⟩ = some (.iface 54 (.pointer (some ⟨q, 0, none⟩)))) (h1 : w.cell? ⟨g, 2, none⟩ = some (.iface 56 (.pointer (some ⟨d, 0, none⟩)))) :
    Calls Tryz.prog 35 #[.pointer (some ⟨p, 0, none⟩)] w fun e w' => e = .returned (.pointer (some ⟨d, 0, none⟩)) ∧ Chg No w w' := by
  go_enter Tryz.func35, Tryz.ntmps35
  go_wp2
  go_ret
  exact ⟨rfl, Chg.refl _ _⟩
section
variable {a : At} {S : Nat → Prop} {w0 : World} {cs : Array Value} {rv tv : Value} {tn : Nat} {tx : List Value} {s : V.Sys} {w : World}
theorem pods_any (h : St a S w0 cs rv tv tn tx s w) (hg : cs[21]? = some (.slice (some ⟨a.g, 0, none⟩) 3 3)) : Calls Tryz.prog 21 #[.pointer (some ⟨a.p, 0, none⟩)] w fun e w' => e = .returned (.pointer (some ⟨a.l, 0, none⟩)) ∧ Chg No w w' := by
  obtain ⟨h0, h1, h2, h3⟩ := at_parts h hg
  exact pods_c _ _ _ _ _ w h0 h1 h2 h3
theorem waits_any (h : St a S w0 cs rv tv tn tx s w) (hg : cs[21]? = some (.slice (some ⟨a.g, 0, none⟩) 3 3)) : Calls Tryz.prog 33 #[.pointer (some ⟨a.p, 0, none⟩)] w fun e w' => e = .returned (.pointer (some ⟨a.q, 0, none⟩)) ∧ Chg No w w' := by
  obtain ⟨h0, h1, h2, h3⟩ := at_parts h hg
  exact waits_c _ _ _ _ _ w h0 h1 h2 h3
theorem decides_any (h : St a S w0 cs rv tv tn tx s w) (hg : cs[21]? = some (.slice (some ⟨a.g, 0, none⟩) 3 3)) : Calls Tryz.prog 35 #[.pointer (some ⟨a.p, 0, none⟩)] w fun e w' => e = .returned (.pointer (some ⟨a.d, 0, none⟩)) ∧ Chg No w w' := by
  obtain ⟨h0, h1, h2, h3⟩ := at_parts h hg
  exact decides_c _ _ _ _ _ w h0 h1 h2 h3
end
theorem flyFrom_snoc (l : List V.Req) (r : V.Req) : ∀ (k : Nat), V.flyFrom k (l ++ [r]) = V.flyFrom k l ++ if r.st == 2 then [((k + l.length : Nat) : Int)] else [] := by
  induction l with
  | nil => intro k; simp [V.flyFrom]
  | cons q l ih =>
    intro k
    simp only [List.cons_append, V.flyFrom, ih, List.length_cons]
    rw [show k + 1 + l.length = k + (l.length + 1) by omega]
    split <;> simp
theorem fly_len (l : List V.Req) : ∀ (k : Nat), (V.flyFrom k l).length ≤ l.length := by
  induction l with
  | nil => intro k; simp [V.flyFrom]
  | cons q l ih =>
    intro k
    have := ih (k + 1)
    simp only [V.flyFrom, List.length_cons]
    split
    · simp; omega
    · omega
set_option maxHeartbeats 2000000 in
theorem flying_c (p : Nat) (rv : Value) (rs : List V.Req) (w : World) (C : Nat → Prop) (cs : Array Value) (hp : Blk w p cs 66) (hr : cs[22]? = some rv) (own : Own w C 48 4 rv rs.length (reqs rs)) (hn : rs.length ≤ 1099511627776) :
    Calls Tryz.prog 52 #[.pointer (some ⟨p, 0, none⟩)] w fun e w' => ∃ v, e = .returned v ∧ Own w' (New w) 3 1 v (V.flying rs).length ((V.flying rs).map (Value.int .i64)) ∧ Chg No w w' := by
  obtain ⟨i0, hi, hz0, hz1, hz2⟩ := info_parts A.info3
  obtain ⟨va, cap, rfl⟩ := own.sl
  have c22 : w.cell? ⟨p, 22, none⟩ = some (.slice va rs.length cap) := by rw [hp.cell]; exact hr
  have HO := Lib.hid own
  clear own hp hr
  go_enter Tryz.func52, Tryz.ntmps52
  go_wp2_with fail
  go_loopw [3, 11] (fun o i wr => ∃ n : Nat, n ≤ rs.length ∧ i = .int .i64 n ∧ Own wr (New w) 3 1 o (V.flying (rs.take n)).length ((V.flying (rs.take n)).map (Value.int .i64)) ∧ Chg No w wr) (fun _ i _ => rs.length - (intOf i).toNat)
  case atStart => exact ⟨0, Nat.zero_le _, rfl, Own.nil _ _ _ _, Chg.refl _ _⟩
  case round =>
    obtain ⟨n, hk, rfl, ho, hc⟩ := hrel
    by_cases hlt : n < rs.length
    · obtain ⟨g, o, rfl, hS, hg, hcap, hmax⟩ := HO.out.some_ (by omega)
      obtain ⟨q, hq⟩ : ∃ q, rs[n]? = some q := ⟨rs[n], List.getElem?_eq_getElem hlt⟩
      obtain ⟨b0, b1, b2, b3⟩ := req_cells (HO.out.kept hc) hq
      have hT : rs.take (n + 1) = rs.take n ++ [q] := by rw [List.take_add_one, hq]; rfl
      have HF : Hid (V.flying (rs.take (n + 1)) = V.flying (rs.take n) ++ if q.st == 2 then [(n : Int)] else []) := by
        show _ = _
        unfold V.flying
        rw [hT, flyFrom_snoc, List.length_take, Nat.min_eq_left (by omega), Nat.zero_add]
      have hfl : (V.flying (rs.take n)).length ≤ n := by
        have := fly_len (rs.take n) 0
        rw [List.length_take] at this
        unfold V.flying
        omega
      have HO2 := Lib.hid ho
      have HC := Lib.hid hc
      clear ho hc hq hS hmax hT
      generalize V.flying (rs.take n) = fl at *
      obtain ⟨q0, q1, q2, q3⟩ := q
      by_cases hst : q2 = 2
      · have k1 : (q2 == 2) = true := by simp [hst]
        have HF2 : Hid (V.flying (rs.take (n + 1)) = fl ++ [(n : Int)]) := by
          show _ = _
          rw [HF.out]
          simp only [k1, if_true]
        clear HF hst
        go_wp2_with (at_builtin; refine wpList_app _ rfl _ _ 76 rfl (New w) 3 i0 _ 1 8 Tryz.underlying76 hi hz0 hz1 hz2 rfl _ _ _ rfl (((HO2.out.alloc _)).alloc _) ⟨wr.heap.size + 1, 0, none⟩ 1 1 [.int .i64 n] rfl (by decide) rfl (built_at (by simp)) (by simp [Value.oneCell']) (by simp only [maxLen]; omega) (by omega) ?_; intro g2 o2 c2 w' ho' hc')
        go_roundw
        case rel =>
          obtain ⟨h1, h2⟩ := fresh_app (HC.out.alloc _) ho' hc'
          refine ⟨n + 1, by omega, by go_num, ?_, h2⟩
          rw [HF2.out, List.map_append, List.length_append]
          exact h1
        case measure => simp [intOf]; omega
      · have k1 : (q2 == 2) = false := by simp [hst]
        have HF2 : Hid (V.flying (rs.take (n + 1)) = fl) := by
          show _ = _
          rw [HF.out]
          simp [k1]
        clear HF hst
        go_wp2
        go_roundw
        case rel =>
          refine ⟨n + 1, by omega, by go_num, ?_, HC.out.alloc _⟩
          rw [HF2.out]
          exact HO2.out.alloc _
        case measure => simp [intOf]; omega
    · obtain rfl : n = rs.length := by omega
      rw [List.take_length] at ho
      go_wp2
      go_ret
      exact ⟨_, rfl, ho, hc⟩
end Go.Proofs.YtdgphoemjeakaaaGreatDoor.Y
namespace Go.Proofs.YtdgphoemjeakaaaGreatDoor.Y
open Go.RowKit K P U
set_option maxRecDepth 100000
theorem busyAt_hit {ps : List M.Pod} {id : Int} {n : Nat} {q : M.Pod} (hq : ps[n]? = some q) (h : q.id = id) (hn : ∀ (j : Nat) (x : M.Pod), j < n → ps[j]? = some x → ¬ x.id = id) : V.busyAt ps id = q.busy := by
  have hl : n < ps.length := (List.getElem?_eq_some_iff.1 hq).1
  have e : ps.find? (fun q => q.id == id) = some q := by
    rw [List.find?_eq_some_iff_getElem]
    refine ⟨by simp [h], n, hl, (List.getElem?_eq_some_iff.1 hq).2, fun j hj => ?_⟩
    have hjl : j < ps.length := by omega
    have := hn j ps[j] hj (List.getElem?_eq_getElem hjl)
    simp [this]
  unfold V.busyAt
  rw [e]
theorem busyAt_none {ps : List M.Pod} {id : Int} (hn : ∀ (j : Nat) (x : M.Pod), j < ps.length → ps[j]? = some x → ¬ x.id = id) : V.busyAt ps id = 0 := by
  have e : ps.find? (fun q => q.id == id) = none := by
    rw [List.find?_eq_none]
    intro x hx
    obtain ⟨j, hj, e⟩ := List.getElem_of_mem hx
    have := hn j x hj (by rw [← e]; exact List.getElem?_eq_getElem hj)
    simp [this]
  unfold V.busyAt
  rw [e]
set_option maxHeartbeats 2000000 in
theorem busy_any {a : At} {S : Nat → Prop} {w0 : World} {cs : Array Value} {rv tv : Value} {tn : Nat} {tx : List Value} {s : V.Sys} {w : World} (hst : St a S w0 cs rv tv tn tx s w) (hg : cs[21]? = some (.slice (some ⟨a.g, 0, none⟩) 3 3)) (hn : s.pods.length ≤ 1099511627776) (id : Int) :
    Calls Tryz.prog 77 #[.pointer (some ⟨a.p, 0, none⟩), .int .i64 id] w fun e w' => e = .returned (.int .i64 (V.busyAt s.pods id)) ∧ Chg No w w' := by
  have H := Lib.hid hst
  have HG := Lib.hid hg
  clear hst hg
  go_enter Tryz.func77, Tryz.ntmps77
  go_wp2_with fail
  refine (pods_any H.out HG.out).mono ?_
  rintro e w1 ⟨rfl, hc1⟩
  have H1 := Lib.hid (H.out.no hc1)
  have C1 := Lib.hid hc1
  clear H hc1
  go_wp2_with fail
  obtain ⟨C, hl, _⟩ := H1.out.life
  refine (A.all_any w1 C a.l s.pods s.made hl hn).mono ?_
  rintro e w2 ⟨v, rfl, ho, hc2⟩
  obtain ⟨va, cap, rfl⟩ := ho.sl
  have HO := Lib.hid ho
  have C2 := Lib.hid (C1.out.trans hc2)
  clear hl ho hc2 H1 C1 HG
  generalize hps : s.pods = ps at *
  have HPS := Lib.hid hps
  clear hps
  go_wp2_with fail
  go_loopw [11] (fun i wr => ∃ n : Nat, n ≤ ps.length ∧ i = .int .i64 n ∧ Hid (∀ (j : Nat) (x : M.Pod), j < n → ps[j]? = some x → ¬ x.id = id) ∧ Chg No w2 wr) (fun i _ => ps.length - (intOf i).toNat)
  case atStart => exact ⟨0, Nat.zero_le _, rfl, fun j x hj => by omega, Chg.refl _ _⟩
  case round =>
    obtain ⟨n, hk, rfl, HN, hc⟩ := hrel
    by_cases hlt : n < ps.length
    · obtain ⟨g, o, rfl, hS, hg, hcap, hmax⟩ := HO.out.some_ (by omega)
      obtain ⟨q, hq⟩ : ∃ q, ps[n]? = some q := ⟨ps[n], List.getElem?_eq_getElem hlt⟩
      obtain ⟨b0, b1, b2, b3⟩ := A.pods_cells (HO.out.kept hc) hq
      have HQ := Lib.hid hq
      have HC := Lib.hid hc
      clear hc hq hS hmax
      by_cases hst : q.id = id
      · have k1 : (q.id == id) = true := by simp [hst]
        have HR := Lib.hid (busyAt_hit HQ.out hst HN.out)
        clear hst
        go_wp2
        go_ret
        exact ⟨by rw [HPS.out, HR.out]; rfl, C2.out.trans (HC.out.alloc _)⟩
      · have k1 : (q.id == id) = false := by simp [hst]
        have HQN : Hid (∀ (j : Nat) (x : M.Pod), j < n + 1 → ps[j]? = some x → ¬ x.id = id) := by
          intro j x hj hx
          by_cases e : j = n
          · subst e
            rw [HQ.out] at hx
            cases hx
            exact hst
          · exact HN.out j x (by omega) hx
        clear hst
        go_wp2
        go_roundw
        case rel => exact ⟨n + 1, by omega, by go_num, HQN, HC.out.alloc _⟩
        case measure => simp [intOf]; omega
    · obtain rfl : n = ps.length := by omega
      have HR := Lib.hid (busyAt_none HN.out)
      go_wp2
      go_ret
      exact ⟨by rw [HPS.out, HR.out]; rfl, C2.out.trans hc⟩
end Go.Proofs.YtdgphoemjeakaaaGreatDoor.Y
namespace Go.Proofs.YtdgphoemjeakaaaGreatDoor.Rg
open Go.RowKit K W
theorem store_one {P : Program} {ty : TypeId} {b o : Nat} {v u : Value} {w : World} (hi : (P.info? ty).map (·.size) = some 1) (h1 : v.oneCell' = true) (hc : w.cell? ⟨b, o, none⟩ = some u) (hf : w.frozen? ⟨b, o, none⟩ = false) : (Instr.storeAt ty (.pointer (some ⟨b, o, none⟩)) v).run P w = .ok () (w.setCell ⟨b, o, none⟩ v) := by
  have e : v.cells = #[v] := by
    cases v <;> simp_all [Value.oneCell', Value.cells]
  have ht : w.there b o (#[v] : Array Value).size := fun j hj => by
    have : j = 0 := by simpa using hj
    subst this
    rw [Nat.add_zero, hc, hf]
    exact ⟨rfl, rfl⟩
  have h := run_storeAt_mid (P := P) w b o ty #[v] ht hi (by simp [h1])
  have e2 : Instr.storeAt ty (.pointer (some ⟨b, o, none⟩)) v = Instr.storeAt ty (.pointer (some ⟨b, o, none⟩)) (.agg #[v]) := by
    simp only [Instr.storeAt, storeVar, e]
    rfl
  rw [e2, h]
  rfl
section
variable {P : Program} {ops : Array Oper} {X : Type} {l : X → Lay} {k0 : Known} {t0 : Array Value} {Wd : X → (Nat → Bool) → World → Prop} {Q : Exit → Act → World → Prop}
theorem stepW {n i : Nat} {o : Oper} {cs : X → Array Value} {ty : TypeId} {d : TypeDesc} {u : Operand} (ad : X → Nat × Nat) (F : Flows ops l k0 t0 n) (ho : ops[i]? = some o) (hw : ∀ x, wish ops (l x) k0 o = true) (hl : ∀ x, (l x)[i]? = some (o.dst, .agg (cs x)))
    (hop : o.op = .load ty u) (he : ∀ x, ev (l x) k0 u = .pointer (some ⟨(ad x).1, (ad x).2, none⟩)) (hu : P.underlying ty = some d) (hd : d.isRow = true) (hi : ∀ x, (P.info? ty).map (·.size) = some (cs x).toList.length)
    (hc : ∀ (x : X) (L : Nat → Bool) (w : World), L i = false → (∀ k, anc ops n i k = true → L k = true) → (∀ k, L k = true → ∀ m, anc ops m k i = false) → Wd x L w → (∀ j, j < (cs x).size → w.cell? ⟨(ad x).1, (ad x).2 + j, none⟩ = (cs x)[j]?) ∧ Wd x (fun j => j == i || L j) w) : RStepX P ops l t0 Wd Q i :=
  stepR F ho hw hl fun x L w h1 h2 h3 hx => by
    obtain ⟨h4, h5⟩ := hc x L w h1 h2 h3 hx
    have hr : w.rangeAt (ad x).1 (ad x).2 (cs x).toList := fun j u hu => by
      rw [Array.getElem?_toList] at hu
      rw [h4 j (Array.getElem?_eq_some_iff.1 hu).1]
      exact hu
    have := run_loadAt_mid (P := P) w (ad x).1 (ad x).2 ty _ d hr hu hd (hi x)
    unfold execOp
    simp only [hop, he, Sem.run_bind, this, Result.andThen_ok, Sem.run_pure]
    exact ⟨.inr rfl, h5⟩
theorem stepS {n i : Nat} {o : Oper} {v : X → Value} {ty : TypeId} {a u : Operand} (ad : X → Nat × Nat) (F : Flows ops l k0 t0 n) (ho : ops[i]? = some o) (hw : ∀ x, wish ops (l x) k0 o = true) (hl : ∀ x, (l x)[i]? = some (none, undef)) (hd : o.dst = none)
    (hop : o.op = .store ty a u) (he : ∀ x, ev (l x) k0 a = .pointer (some ⟨(ad x).1, (ad x).2, none⟩)) (hv : ∀ x, ev (l x) k0 u = v x) (hi : (P.info? ty).map (·.size) = some 1) (h1 : ∀ x, (v x).oneCell' = true)
    (hc : ∀ (x : X) (L : Nat → Bool) (w : World), L i = false → (∀ k, anc ops n i k = true → L k = true) → (∀ k, L k = true → ∀ m, anc ops m k i = false) → Wd x L w → (∃ z, w.cell? ⟨(ad x).1, (ad x).2, none⟩ = some z) ∧ w.frozen? ⟨(ad x).1, (ad x).2, none⟩ = false ∧ Wd x (fun j => j == i || L j) (w.setCell ⟨(ad x).1, (ad x).2, none⟩ (v x))) : RStepX P ops l t0 Wd Q i :=
  stepR F ho hw (fun x => by rw [hl, hd]) fun x L w h2 h3 h4 hx => by
    obtain ⟨⟨z, h5⟩, h6, h7⟩ := hc x L w h2 h3 h4 hx
    unfold execOp
    simp only [hop, he, hv, Sem.run_bind, store_one hi (h1 x) h5 h6, Result.andThen_ok, Sem.run_pure]
    exact ⟨hd, .inl hd, h7⟩
theorem stepY {n i : Nat} {o : Oper} {v : X → Value} (f : FuncId) (args : X → Array Value) (F : Flows ops l k0 t0 n) (ho : ops[i]? = some o) (hw : ∀ x, wish ops (l x) k0 o = true) (hl : ∀ x, (l x)[i]? = some (o.dst, v x))
    (he : ∀ x w, (execOp (ev (l x) k0) o).run P w = .ok (.enter f (args x)) w)
    (hc : ∀ (x : X) (L : Nat → Bool) (w : World), L i = false → (∀ k, anc ops n i k = true → L k = true) → (∀ k, L k = true → ∀ m, anc ops m k i = false) → Wd x L w → Calls P f (args x) w fun e w' => ∃ x', e = .returned (v x') ∧ (∀ j, L j = true → (l x')[j]? = (l x)[j]?) ∧ Wd x' (fun j => j == i || L j) w') : RStepX P ops l t0 Wd Q i :=
  stepX F ho fun x L w h1 h2 h3 hx => by
    rw [if_pos (hw x), he]
    exact (hc x L w h1 h2 h3 hx).mono fun e w' ⟨x', h4, h5, h6⟩ => ⟨_, h4, x', h5, ⟨_, hl x', .inr rfl⟩, h6⟩
theorem but_one {l l' : Lay} {i : Nat} {L : Nat → Bool} (hi : L i = false) (h : l'.set i (none, undef) = l.set i (none, undef)) : ∀ j, L j = true → l'[j]? = l[j]? := by
  intro j hj
  have hn : i ≠ j := fun e => by rw [e, hj] at hi; cases hi
  have := congrArg (fun m : Lay => m[j]?) h
  simpa only [List.getElem?_set_ne hn] using this
theorem but_all {l l' : Lay} {L : Nat → Bool} : ∀ {D : List Nat}, (∀ i, i ∈ D → L i = false) → D.foldl (fun l i => l.set i (none, undef)) l' = D.foldl (fun l i => l.set i (none, undef)) l → ∀ j, L j = true → l'[j]? = l[j]? := by
  intro D hD h j hj
  have key : ∀ (D : List Nat) (l : Lay), (∀ i, i ∈ D → L i = false) → (D.foldl (fun l i => l.set i (none, undef)) l)[j]? = l[j]? := by
    intro D
    induction D with
    | nil => intro l _; rfl
    | cons i D ih =>
      intro l hD
      have hn : i ≠ j := fun e => by have := hD i (List.mem_cons_self ..); rw [e, hj] at this; cases this
      rw [List.foldl_cons, ih _ fun k hk => hD k (List.mem_cons_of_mem _ hk), List.getElem?_set_ne hn]
  rw [← key D l' hD, h, key D l hD]
theorem desc {ops : Array Oper} {L : Nat → Bool} {i : Nat} (m : Nat) {D : List Nat} (h1 : L i = false) (h2 : ∀ k, L k = true → ∀ m, anc ops m k i = false) (hD : D.all (fun k => k == i || anc ops m k i) = true) : ∀ k, k ∈ D → L k = false := by
  intro k hk
  have := List.all_eq_true.1 hD k hk
  rw [Bool.or_eq_true] at this
  rcases this with h | h
  · rw [beq_iff_eq.1 h]; exact h1
  · cases hl : L k with
    | false => rfl
    | true => rw [h2 k hl m] at h; cases h
theorem stepRS {n i : Nat} {o : Oper} {cs : X → Array Value} {ty : TypeId} {a u : Operand} (ad : X → Nat × Nat) (F : Flows ops l k0 t0 n) (ho : ops[i]? = some o) (hw : ∀ x, wish ops (l x) k0 o = true) (hl : ∀ x, (l x)[i]? = some (none, undef)) (hd : o.dst = none)
    (hop : o.op = .store ty a u) (he : ∀ x, ev (l x) k0 a = .pointer (some ⟨(ad x).1, (ad x).2, none⟩)) (hv : ∀ x, ev (l x) k0 u = .agg (cs x)) (hi : ∀ x, (P.info? ty).map (·.size) = some (cs x).size) (h1 : ∀ x, (cs x).all (·.oneCell') = true)
    (hc : ∀ (x : X) (L : Nat → Bool) (w : World), L i = false → (∀ k, anc ops n i k = true → L k = true) → (∀ k, L k = true → ∀ m, anc ops m k i = false) → Wd x L w → w.there (ad x).1 (ad x).2 (cs x).size ∧ Wd x (fun j => j == i || L j) (w.setCells (ad x).1 (ad x).2 (cs x).toList)) : RStepX P ops l t0 Wd Q i :=
  stepR F ho hw (fun x => by rw [hl, hd]) fun x L w h2 h3 h4 hx => by
    obtain ⟨h5, h7⟩ := hc x L w h2 h3 h4 hx
    unfold execOp
    simp only [hop, he, hv, Sem.run_bind, run_storeAt_mid (P := P) w _ _ ty (cs x) h5 (hi x) (h1 x), Result.andThen_ok, Sem.run_pure]
    exact ⟨hd, .inl hd, h7⟩
end
end Go.Proofs.YtdgphoemjeakaaaGreatDoor.Rg
