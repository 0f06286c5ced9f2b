/- Package queue: Take, Late, All. Packages milli, conf (Per, Most), want, rate: what their functions give. Packages want, rate: what their functions give. Packages alarm, zero, burst: what their functions give. Packages zero (May, Want), burst, event: what their functions give. Package burst: what its functions give. -/
import Derived.Test.YtdgphoemjeakaaaGreatDoorQ02
import Derived.Test.YtdgphoemjeakaaaGreatDoorQ01
import Derived.BigQuiet
import Derived.Deep.MidRow
import Derived.Deep.RegionHeld3
import Derived.Handy
/-! Package queue: Take, Late, All. -/
namespace Go.Proofs.YtdgphoemjeakaaaGreatDoor.B
open Go.RowKit Go.Shelf Go.Proofs.YtdgphoemjeakaaaGreatDoor.K Go.Proofs.YtdgphoemjeakaaaGreatDoor.A
set_option maxRecDepth 100000

/-- The first ones are gone. -/
theorem QueueV.behind {w : World} {S : Nat → Prop} {p g o cap : Nat} {l : List (Int × Int)} {depth last : Int} (h : QueueV w S p (.slice (some ⟨g, o, none⟩) l.length cap) l depth last) (k : Nat) (hk : k ≤ l.length) :
    QueueV (w.setCell ⟨p, 0, none⟩ (.slice (if cap = k then some ⟨g, o, none⟩ else some ⟨g, o + k, none⟩) (l.length - k) (cap - k))) S p (.slice (if cap = k then some ⟨g, o, none⟩ else some ⟨g, o + k, none⟩) (l.length - k) (cap - k)) (l.drop k) depth last := by
  refine ⟨by simpa [World.setCell] using h.bd, h.own, h.blk.set 0 _, ?_⟩
  rw [List.length_drop, List.map_drop]
  exact (own_from h.row k hk).other h.blk (by decide) _

set_option maxHeartbeats 2000000 in
theorem take_any (w : World) (S : Nat → Prop) (p : Nat) (x : Int × Int) (l : List (Int × Int)) (depth last : Int) (h : Queue w S p (x :: l) depth last) (hn : l.length + 1 ≤ 1099511627776) :
    Calls Tryz.prog 79 #[.pointer (some ⟨p, 0, none⟩)] w fun e w' => e = .returned (.tuple #[.int .i64 x.1, .bool true]) ∧ Queue w' S p l depth last ∧ Chg S w w' := by
  obtain ⟨v, h⟩ := h
  have c0 : w.cell? ⟨p, 0, none⟩ = some v := Blk.cell h.blk 0
  have f0 := Blk.free h.blk 0
  obtain ⟨va, cap, rfl⟩ := h.row.sl
  obtain ⟨g, o, rfl, hS, hg, hcap, hmax⟩ := h.row.some_ (by simp)
  have e0 : w.cell? ⟨g, o, none⟩ = some (.iface 117 (.agg #[.int .i64 x.1, .int .i64 x.2])) := by
    have := h.row.cellAt 0 (by simp)
    rw [Nat.add_zero] at this
    rw [this]
    rfl
  have hp := h.blk.lt
  have H := Lib.hid h
  simp only [List.length_cons] at hcap c0
  have hcap1 : 1 ≤ cap := by omega
  have ne0 : (((l.length + 1 : Nat) : Int) == 0) = false := beq_eq_false_iff_ne.2 (by omega)
  have hne : g ≠ p := by
    obtain ⟨_, _, cur, hb, _⟩ := h.row.blk
    exact hb.ne h.blk (by decide)
  clear h hS hmax
  by_cases hc1 : cap = 1
  all_goals
    go_enter Tryz.func79, Tryz.ntmps79
    go_wp2
    go_ret2
    have hL := (H.out.behind 1 (by simp)).kept ((Chg.refl No _).alloc (.cells #[.int .i64 x.1, .int .i64 x.2] 117))
    first | (subst hc1; rw [if_pos rfl] at hL) | rw [if_neg hc1] at hL
    refine ⟨rfl, ⟨_, hL⟩, ?_⟩
    exact ((Chg.refl S w).set (a := ⟨p, 0, none⟩) (fun _ => H.out.own) _).alloc _

theorem info3 : (Tryz.prog.info? 3).map (fun i => (i.zero, i.size, i.bytes)) = some (some (.int .i64 0), 1, 8) := by kernel_rfl

set_option maxHeartbeats 2000000 in
theorem all_any (w : World) (S : Nat → Prop) (p : Nat) (l : List (Int × Int)) (depth last : Int) (h : Queue w S p l depth last) (hn : l.length ≤ 1099511627776) :
    Calls Tryz.prog 34 #[.pointer (some ⟨p, 0, none⟩)] w fun e w' => ∃ v, e = .returned v ∧ Own w' (New w) 3 1 v l.length (l.map fun x => .int .i64 x.1) ∧ Chg No w w' := by
  obtain ⟨v, h⟩ := h
  have c0 : w.cell? ⟨p, 0, none⟩ = some v := Blk.cell h.blk 0
  obtain ⟨i0, hi, hz0, hz1, hz2⟩ := info_parts info3
  obtain ⟨va, cap, rfl⟩ := h.row.sl
  have H := Lib.hid h
  clear h
  go_enter Tryz.func34, Tryz.ntmps34
  go_wp2_with fail
  go_loopw [3, 13] (fun s i wr => ∃ n : Nat, n ≤ l.length ∧ i = .int .i64 n ∧ Own wr (New w) 3 1 s n ((l.take n).map fun x => .int .i64 x.1) ∧ Chg No w wr) (fun _ i _ => l.length - (intOf i).toNat)
  case atStart => exact ⟨0, Nat.zero_le _, rfl, Own.nil _ _ _ _, Chg.refl _ _⟩
  case round =>
    obtain ⟨n, hk, rfl, ho, hc⟩ := hrel
    by_cases hlt : n < l.length
    · obtain ⟨g, o, rfl, hS, hg, hcap, hmax⟩ := H.out.row.some_ (by omega)
      obtain ⟨x, hx⟩ : ∃ x, l[n]? = some x := ⟨l[n], List.getElem?_eq_getElem hlt⟩
      have e0 : wr.cell? ⟨g, o + n, none⟩ = some (.iface 117 (.agg #[.int .i64 x.1, .int .i64 x.2])) := by
        rw [(H.out.row.kept hc).cellAt n (by omega), List.getElem?_map, hx]
        rfl
      have HT : Hid (l.take (n + 1) = l.take n ++ [x]) := by show _ = _; rw [List.take_add_one, hx]; rfl
      have HO := Lib.hid ho
      have HC := Lib.hid hc
      clear ho hc hx hS hmax
      go_wp2_with (at_builtin; refine wpList_app _ rfl _ _ 76 rfl (New w) 3 i0 _ 1 8 Tryz.underlying76 hi hz0 hz1 hz2 rfl _ _ _ rfl (HO.out.alloc _) ⟨wr.heap.size, 0, none⟩ 1 1 [.int .i64 x.1] rfl (by decide) rfl (built_at (by simp)) (by simp [Value.oneCell']) (by simp only [maxLen]; omega) (by omega) ?_; intro g2 o2 c2 w' ho' hc')
      go_roundw
      case rel =>
        obtain ⟨h1, h2⟩ := fresh_app HC.out ho' hc'
        exact ⟨n + 1, by omega, by go_num, by rw [HT.out, List.map_append]; exact h1, h2⟩
      case measure => simp [intOf]; omega
    · obtain rfl : n = l.length := by omega
      rw [List.take_length] at ho
      go_wp2
      go_ret
      exact ⟨_, rfl, ho, hc⟩

theorem while_split {α : Type} {f : α → Bool} {l a b : List α} (h : l = a ++ b) (h1 : ∀ x, x ∈ a → f x = true) (h2 : ∀ x r, b = x :: r → f x = false) : l.takeWhile f = a ∧ l.dropWhile f = b := by
  subst h
  have hb : b.takeWhile f = [] ∧ b.dropWhile f = b := by
    cases b with
    | nil => exact ⟨rfl, rfl⟩
    | cons x r => have := h2 x r rfl; simp [this]
  rw [List.takeWhile_append_of_pos h1, List.dropWhile_append_of_pos h1, hb.1, hb.2]
  simp

/-- Does one that waits wait too long? -/
def late (now age : Int) (x : Int × Int) : Bool := decide (age ≤ now - x.2)

set_option maxHeartbeats 4000000 in
theorem late_any (w : World) (S : Nat → Prop) (p : Nat) (l : List (Int × Int)) (depth last now age : Int) (h : Queue w S p l depth last) (hn : l.length ≤ 1099511627776) (hl : ∀ x, x ∈ l → 0 ≤ x.2 ∧ x.2 ≤ now) (n1 : now ≤ 1099511627776) (a0 : 0 ≤ age) (a1 : age ≤ 1099511627776) :
    Calls Tryz.prog 59 #[.pointer (some ⟨p, 0, none⟩), .int .i64 now, .int .i64 age] w fun e w' => ∃ v, e = .returned v ∧ Own w' (New w) 3 1 v (l.takeWhile (late now age)).length ((l.takeWhile (late now age)).map fun x => .int .i64 x.1) ∧ Queue w' S p (l.dropWhile (late now age)) depth last ∧ Chg S w w' := by
  obtain ⟨i0, hi, hz0, hz1, hz2⟩ := info_parts info3
  have H := Lib.hid h
  have HL := Lib.hid hl
  have hpw : ¬ New w p := by obtain ⟨_, hh⟩ := h; have := hh.blk.lt; unfold New; omega
  have hSw : Hid (∀ k, S k → New w k → False) := by obtain ⟨_, hh⟩ := h; intro k h1 h2; have := hh.bd k h1; unfold New at h2; omega
  have HPW := Lib.hid hpw
  clear h hl hpw
  go_enter Tryz.func59, Tryz.ntmps59
  go_wp2_with fail
  go_loopg [7] l.length (fun g s wr => ∃ a b : List (Int × Int), g = b.length ∧ Hid (l = a ++ b ∧ (∀ x, x ∈ a → late now age x = true) ∧ Own wr (New w) 3 1 s a.length (a.map fun x => .int .i64 x.1) ∧ Queue wr S p b depth last ∧ Chg S w wr))
  case atStart => exact ⟨[], l, rfl, ⟨rfl, (fun x hx => absurd hx (by simp)), Own.nil _ _ _ _, H.out, Chg.refl _ _⟩⟩
  case round =>
    obtain ⟨a, b, rfl, HR⟩ := hrel
    obtain ⟨v, hq⟩ := HR.out.2.2.2.1
    have hal : a.length + b.length = l.length := by have := congrArg List.length HR.out.1; simpa using this.symm
    have c0 : wr.cell? ⟨p, 0, none⟩ = some v := Blk.cell hq.blk 0
    have f0 := Blk.free hq.blk 0
    have hp := hq.blk.lt
    obtain ⟨va, cap, rfl⟩ := hq.row.sl
    cases b with
    | nil =>
      clear hq
      go_wp2
      go_ret
      obtain ⟨h1, h2, h3, h4, h5⟩ := HR.out
      obtain ⟨e1, e2⟩ := while_split h1 h2 (by intro x r hx; simp at hx)
      rw [e1, e2]
      exact ⟨_, rfl, h3, h4, h5⟩
    | cons x r =>
      obtain ⟨g, o, rfl, hS, hg, hcap, hmax⟩ := hq.row.some_ (by simp)
      have e0 : wr.cell? ⟨g, o, none⟩ = some (.iface 117 (.agg #[.int .i64 x.1, .int .i64 x.2])) := by
        have := hq.row.cellAt 0 (by simp)
        rw [Nat.add_zero] at this
        rw [this]
        rfl
      simp only [List.length_cons] at hcap c0 hal
      have hcap1 : 1 ≤ cap := by omega
      have hne : g ≠ p := by
        obtain ⟨_, _, cur, hb, _⟩ := hq.row.blk
        exact hb.ne hq.blk (by decide)
      obtain ⟨t0, t1⟩ := HL.out x (by rw [HR.out.1]; simp)
      have HQ := Lib.hid hq
      have k1 : decide (now < x.2) = false := decide_eq_false (by omega)
      clear hq hS hmax
      have hsub : IntKind.u64.wrap (now - x.2) = now - x.2 := by rw [IntKind.wrap_u64]; omega
      cases hlate : late now age x
      · have k2 : decide (now - x.2 < age) = true := by unfold late at hlate; simpa using hlate
        have HLT := Lib.hid hlate
        clear hlate
        go_wp2
        go_ret
        obtain ⟨h1, h2, h3, h4, h5⟩ := HR.out
        obtain ⟨e1, e2⟩ := while_split h1 h2 (by intro y r' hx; injection hx with hx; rw [← hx]; exact HLT.out)
        rw [e1, e2]
        have cA : Chg No wr (wr.alloc (.cells #[.int .i64 x.1, .int .i64 x.2] 117)) := (Chg.refl No wr).alloc _
        exact ⟨_, rfl, h3.kept cA, h4.kept cA, h5.trans cA.of_no⟩
      · have k2 : decide (now - x.2 < age) = false := by unfold late at hlate; simp at hlate; simp; omega
        have HLT := Lib.hid hlate
        have HO := Lib.hid HR.out.2.2.1
        clear hlate
        have hal2 : a.length + 1 ≤ 1099511627776 := by omega
        by_cases hc1 : cap = 1
        all_goals
          go_wp2_with (at_builtin; refine wpList_app _ rfl _ _ 76 rfl (New w) 3 i0 _ 1 8 Tryz.underlying76 hi hz0 hz1 hz2 rfl _ _ _ rfl ((HO.out.alloc (.cells #[.int .i64 x.1, .int .i64 x.2] 117)).alloc (.cells #[.int .i64 x.1] 3)) ⟨wr.heap.size + 1, 0, none⟩ 1 1 [.int .i64 x.1] rfl (by decide) rfl (built_at (by simp)) (by simp [Value.oneCell']) (by simp only [maxLen]; omega) (by omega) ?_; intro g2 o2 c2 w' ho' hc'; have hb2 := ((HQ.out.kept (((Chg.refl No wr).alloc (.cells #[.int .i64 x.1, .int .i64 x.2] 117)).alloc (.cells #[.int .i64 x.1] 3))).chg hc' hSw.out); have c0' : w'.cell? ⟨p, 0, none⟩ = some (.slice (some ⟨g, o, none⟩) (r.length + 1) cap) := Blk.cell hb2.blk 0; have f0' := Blk.free hb2.blk 0; have HO2 := Lib.hid ho'; have HC2 := Lib.hid hc'; have HQ2 := Lib.hid hb2; clear ho' hc' hb2)
          go_roundg r.length
          case measure => simp
          case rel =>
            obtain ⟨h1, h2, h3, h4, h5⟩ := HR.out
            have hL := HQ2.out.behind 1 (by simp)
            first | (subst hc1; rw [if_pos rfl] at hL) | rw [if_neg hc1] at hL
            have hs := HC2.out.size
            have hs5 := h5.size
            simp at hs
            refine ⟨a ++ [x], r, rfl, by rw [h1]; simp, ?_, ?_, ⟨_, hL⟩, ?_⟩
            · intro y hy
              rcases List.mem_append.1 hy with hy | hy
              · exact h2 y hy
              · rw [List.mem_singleton.1 hy]; exact HLT.out
            · rw [List.length_append, List.map_append]
              refine (HO2.out.mono fun k _ hk => nx_new (by simp; omega) hk).other HQ2.out.blk (by decide) _
            · exact (((h5.alloc _).alloc _).step HC2.out fun k hk hn => absurd hn (by unfold New; omega)).set (a := ⟨p, 0, none⟩) (fun _ => HQ2.out.own) _

end Go.Proofs.YtdgphoemjeakaaaGreatDoor.B

/-! Packages milli, conf (Per, Most), want, rate: what their functions give. -/
namespace Go.Proofs.YtdgphoemjeakaaaGreatDoor.P
open Go.RowKit Go.Proofs.YtdgphoemjeakaaaGreatDoor.K
set_option maxRecDepth 100000

/-- The settings' cells: the document's but for the burst, the first number, the limit, how long a pod takes. -/
def ca (bu ini li rd : Int) : Array Value := #[.int .i64 10000, .int .i64 700, .int .i64 60, .int .i64 6, .int .i64 1, .int .i64 2000, .int .i64 10000, .int .i64 2000, .int .i64 0, .int .i64 0, .int .i64 ini, .int .i64 30, .int .i64 0, .int .i64 bu, .int .i64 li, .int .i64 100, .int .i64 60, .int .i64 rd, .int .i64 0, .int .i64 0]
@[go_sem] theorem ca_0 (bu ini li rd : Int) : (ca bu ini li rd)[0]? = some (.int .i64 10000) := rfl
@[go_sem] theorem ca_1 (bu ini li rd : Int) : (ca bu ini li rd)[1]? = some (.int .i64 700) := rfl
@[go_sem] theorem ca_2 (bu ini li rd : Int) : (ca bu ini li rd)[2]? = some (.int .i64 60) := rfl
@[go_sem] theorem ca_3 (bu ini li rd : Int) : (ca bu ini li rd)[3]? = some (.int .i64 6) := rfl
@[go_sem] theorem ca_4 (bu ini li rd : Int) : (ca bu ini li rd)[4]? = some (.int .i64 1) := rfl
@[go_sem] theorem ca_5 (bu ini li rd : Int) : (ca bu ini li rd)[5]? = some (.int .i64 2000) := rfl
@[go_sem] theorem ca_6 (bu ini li rd : Int) : (ca bu ini li rd)[6]? = some (.int .i64 10000) := rfl
@[go_sem] theorem ca_7 (bu ini li rd : Int) : (ca bu ini li rd)[7]? = some (.int .i64 2000) := rfl
@[go_sem] theorem ca_8 (bu ini li rd : Int) : (ca bu ini li rd)[8]? = some (.int .i64 0) := rfl
@[go_sem] theorem ca_9 (bu ini li rd : Int) : (ca bu ini li rd)[9]? = some (.int .i64 0) := rfl
@[go_sem] theorem ca_10 (bu ini li rd : Int) : (ca bu ini li rd)[10]? = some (.int .i64 ini) := rfl
@[go_sem] theorem ca_11 (bu ini li rd : Int) : (ca bu ini li rd)[11]? = some (.int .i64 30) := rfl
@[go_sem] theorem ca_12 (bu ini li rd : Int) : (ca bu ini li rd)[12]? = some (.int .i64 0) := rfl
@[go_sem] theorem ca_13 (bu ini li rd : Int) : (ca bu ini li rd)[13]? = some (.int .i64 bu) := rfl
@[go_sem] theorem ca_14 (bu ini li rd : Int) : (ca bu ini li rd)[14]? = some (.int .i64 li) := rfl
@[go_sem] theorem ca_15 (bu ini li rd : Int) : (ca bu ini li rd)[15]? = some (.int .i64 100) := rfl
@[go_sem] theorem ca_16 (bu ini li rd : Int) : (ca bu ini li rd)[16]? = some (.int .i64 60) := rfl
@[go_sem] theorem ca_17 (bu ini li rd : Int) : (ca bu ini li rd)[17]? = some (.int .i64 rd) := rfl
@[go_sem] theorem ca_18 (bu ini li rd : Int) : (ca bu ini li rd)[18]? = some (.int .i64 0) := rfl
@[go_sem] theorem ca_19 (bu ini li rd : Int) : (ca bu ini li rd)[19]? = some (.int .i64 0) := rfl
theorem ca_size (bu ini li rd : Int) : (ca bu ini li rd).size = 20 := rfl
/-- May they be? -/
structure Ok (bu ini li rd : Int) : Prop where
  bu : bu = -1000 ∨ (0 ≤ bu ∧ bu ≤ 100000000)
  ini : 0 ≤ ini ∧ ini ≤ 100
  li : 1 ≤ li ∧ li ≤ 1000
  rd : 0 ≤ rd ∧ rd ≤ 100
/-- Such settings may be. -/
def Said.may : Prop := ∀ bu ini li rd, Ok bu ini li rd → ∀ w, Calls Tryz.prog 16 #[.agg (ca bu ini li rd)] w fun e w' => e = .returned (.bool true) ∧ Chg No w w'

/-- The n cells from a place on, as one value. -/
noncomputable def rowOf (w : World) (b o n : Nat) : Option Value := if (List.range n).all (fun j => (w.cell? ⟨b, o + j, none⟩).isSome) then some (.agg ((List.range n).map fun j => (w.cell? ⟨b, o + j, none⟩).getD undef).toArray) else none
theorem rowOf_of {w : World} {b o : Nat} {cs : Array Value} (h : ∀ j, j < cs.size → w.cell? ⟨b, o + j, none⟩ = cs[j]?) : rowOf w b o cs.size = some (.agg cs) := by
  unfold rowOf
  rw [if_pos (by rw [List.all_eq_true]; intro j hj; rw [List.mem_range] at hj; rw [h j hj]; simp [hj])]
  congr 2
  apply Array.ext_getElem?
  intro j
  by_cases hj : j < cs.size
  · simp [hj, h j hj]
  · simp [hj]
theorem rowOf_blk {w : World} {b : Nat} {cs : Array Value} {t : TypeId} (h : Blk w b cs t) : rowOf w b 0 cs.size = some (.agg cs) := rowOf_of fun j _ => by rw [Nat.zero_add]; exact h.cell j
@[go_sem] theorem rowOf_drew (w : World) (b o n : Nat) : rowOf w.drew b o n = rowOf w b o n := rfl
@[go_sem] theorem rowOf_drewN (w : World) (b o n k : Nat) : rowOf (w.drewN k) b o n = rowOf w b o n := rfl
theorem rowOf_same {w w' : World} {b : Nat} (o n : Nat) (h : w'.heap[b]? = w.heap[b]?) : rowOf w' b o n = rowOf w b o n := by
  have e : ∀ j, w'.cell? ⟨b, o + j, none⟩ = w.cell? ⟨b, o + j, none⟩ := fun j => World.cell?_of_block (w := w) (w' := w') (a := ⟨b, o + j, none⟩) h
  unfold rowOf
  simp only [e]
@[go_sem] theorem rowOf_alloc (w : World) (x : Obj) (b o n : Nat) (h : b < w.heap.size) : rowOf (w.alloc x) b o n = rowOf w b o n := rowOf_same o n (Below.heap_alloc w x b h)
@[go_sem] theorem rowOf_set (w : World) (a : Addr) (v : Value) (b o n : Nat) (h : ¬ b = a.block) : rowOf (w.setCell a v) b o n = rowOf w b o n := rowOf_same o n (Below.heap_setCell w a v b h)
@[go_sem] theorem rowOf_new (w : World) (bu ini li rd : Int) : rowOf (w.alloc (.cells (ca bu ini li rd) 24)) w.heap.size 0 20 = some (.agg (ca bu ini li rd)) := rowOf_blk (Blk.new w (ca bu ini li rd) 24)
theorem load24 {w : World} {b o : Nat} (h : (rowOf w b o 20).isSome = true) : (Instr.loadAt 24 (.pointer (some ⟨b, o, none⟩))).run Tryz.prog w = .ok ((rowOf w b o 20).getD undef) w := by
  have hall : (List.range 20).all (fun j => (w.cell? ⟨b, o + j, none⟩).isSome) = true := by
    unfold rowOf at h
    split at h
    · assumption
    · cases h
  unfold rowOf
  rw [if_pos hall]
  have hc : w.rangeAt b o ((List.range 20).map fun j => (w.cell? ⟨b, o + j, none⟩).getD undef) := by
    intro j v hv
    rw [List.getElem?_map] at hv
    by_cases hj : j < 20
    · rw [List.getElem?_range hj] at hv
      have := (List.all_eq_true.1 hall) j (List.mem_range.2 hj)
      obtain ⟨u, hu⟩ := Option.isSome_iff_exists.1 this
      simp only [Option.map_some, hu, Option.getD_some] at hv
      rw [hu]
      exact hv
    · rw [List.getElem?_eq_none (by simpa using hj)] at hv
      cases hv
  exact run_loadAt_mid w b o 24 _ _ hc Tryz.underlying24 rfl (by kernel_rfl)

/-- The load of such a value, as the walk takes it. -/
noncomputable def ld24 (v : Value) (w : World) : Result Next := match v with
  | .pointer (some ⟨b, o, none⟩) => if (rowOf w b o 20).isSome then .ok (.value ((rowOf w b o 20).getD undef)) w else (do pure (.value (← Instr.loadAt 24 v)) : Sem Next).run Tryz.prog w
  | _ => (do pure (.value (← Instr.loadAt 24 v)) : Sem Next).run Tryz.prog w
@[go_sem ↓] theorem exec24 (ρ : Operand → Value) (dst : Option Tmp) (x : Operand) (ty : TypeId) (pos : String) (after : Array Edge) (gd : Option (Nat × Bool)) (w : World) : (execOp ρ { dst := dst, op := .load 24 x, type := ty, pos := pos, after := after, guard := gd }).run Tryz.prog w = ld24 (ρ x) w := by
  show (do pure (.value (← Instr.loadAt 24 (ρ x))) : Sem Next).run Tryz.prog w = _
  unfold ld24
  split
  · rename_i b o h
    split
    · rename_i hs
      rw [h, Sem.run_bind, load24 hs]
      rfl
    · rfl
  · rfl
@[go_sem] theorem ld24_ok {w : World} {b o : Nat} (h : (rowOf w b o 20).isSome = true) : ld24 (.pointer (some ⟨b, o, none⟩)) w = .ok (.value ((rowOf w b o 20).getD undef)) w := by
  unfold ld24
  simp [h]

theorem ret_int {k : IntKind} {a b : Int} (h : a = b) : Ending.returned (.int k a) = .returned (.int k b) := by rw [h]

set_option maxHeartbeats 1000000 in
theorem add_nn (a b : Int) (w : World) (a0 : 0 ≤ a) (b0 : 0 ≤ b) (h : a + b ≤ 4611686018427387904) : Calls Tryz.prog 93 #[.int .i64 a, .int .i64 b] w fun e w' => e = .returned (.tuple #[.int .i64 (a + b), .int .i64 0]) ∧ w = w' := by
  have k2 : decide (b < 0) = false := decide_eq_false (by omega)
  by_cases hb : 0 < b
  · have k1 : decide (0 < b) = true := decide_eq_true hb
    have k3 : decide (9223372036854775807 - b < a) = false := decide_eq_false (by omega)
    go_enter Tryz.func93, Tryz.ntmps93
    go_wp2
    go_ret2
    exact ⟨rfl, rfl⟩
  · have k1 : decide (0 < b) = false := decide_eq_false (by omega)
    go_enter Tryz.func93, Tryz.ntmps93
    go_wp2
    go_ret2
    exact ⟨rfl, rfl⟩

set_option maxHeartbeats 1000000 in
theorem sub_any (a b : Int) (w : World) (a0 : -2305843009213693952 ≤ a) (a1 : a ≤ 2305843009213693952) (b0 : -2305843009213693952 ≤ b) (b1 : b ≤ 2305843009213693952) : Calls Tryz.prog 47 #[.int .i64 a, .int .i64 b] w fun e w' => e = .returned (.tuple #[.int .i64 (a - b), .int .i64 0]) ∧ w = w' := by
  by_cases hb : b < 0
  · have k1 : decide (b < 0) = true := decide_eq_true hb
    have k2 : decide (0 < b) = false := decide_eq_false (by omega)
    have k3 : decide (9223372036854775807 + b < a) = false := decide_eq_false (by omega)
    go_enter Tryz.func47, Tryz.ntmps47
    go_wp2
    go_ret2
    exact ⟨rfl, rfl⟩
  · have k1 : decide (b < 0) = false := decide_eq_false hb
    by_cases hb2 : 0 < b
    · have k2 : decide (0 < b) = true := decide_eq_true hb2
      have k3 : decide (a < -9223372036854775808 + b) = false := decide_eq_false (by omega)
      go_enter Tryz.func47, Tryz.ntmps47
      go_wp2
      go_ret2
      exact ⟨rfl, rfl⟩
    · have k2 : decide (0 < b) = false := decide_eq_false hb2
      go_enter Tryz.func47, Tryz.ntmps47
      go_wp2
      go_ret2
      exact ⟨rfl, rfl⟩

set_option maxHeartbeats 1000000 in
theorem half_nn (a b : Int) (w : World) (a0 : 0 ≤ a) (a1 : a ≤ 4611686018427387904) (b0 : 0 < b) (b1 : b ≤ 4611686018427387904) : Calls Tryz.prog 164 #[.int .i64 a, .int .i64 b] w fun e w' => e = .returned (.tuple #[.int .i64 (a / b), .int .i64 0]) ∧ w = w' := by
  have k1 : (b == 0) = false := beq_eq_false_iff_ne.2 (by omega)
  have k2 : (a == -9223372036854775808) = false := beq_eq_false_iff_ne.2 (by omega)
  have k4 : ¬ b = 0 := by omega
  have q1 : IntKind.i64.wrap (a.tdiv b) = a / b := by
    rw [Int.tdiv_eq_ediv_of_nonneg a0, IntKind.wrap_i64]
    have := Int.ediv_nonneg (a := a) (b := b) a0 (by omega)
    have := Int.ediv_le_self (a := a) b a0
    omega
  go_enter Tryz.func164, Tryz.ntmps164
  go_wp2
  go_ret2
  exact ⟨rfl, rfl⟩

/-- The least whole number not below a quotient. -/
def up (a b : Int) : Int := a / b + if a % b = 0 then 0 else 1
set_option maxHeartbeats 1000000 in
theorem up_nn (a b : Int) (w : World) (a0 : 0 ≤ a) (a1 : a ≤ 4611686018427387904) (b0 : 0 < b) (b1 : b ≤ 4611686018427387904) : Calls Tryz.prog 134 #[.int .i64 a, .int .i64 b] w fun e w' => e = .returned (.tuple #[.int .i64 (up a b), .int .i64 0]) ∧ w = w' := by
  have H := Lib.hid fun w => half_nn a b w a0 a1 b0 b1
  have k1 : (b == 0) = false := beq_eq_false_iff_ne.2 (by omega)
  have k4 : ¬ b = 0 := by omega
  have k5 : decide (a < 0) = false := decide_eq_false (by omega)
  have k6 : decide (b < 0) = false := decide_eq_false (by omega)
  have q1 : IntKind.i64.wrap (a.tmod b) = a % b := by
    rw [Int.tmod_eq_emod_of_nonneg a0, IntKind.wrap_i64]
    have := Int.emod_nonneg a k4
    have := Int.emod_lt_of_pos a b0
    omega
  have d0 := Int.ediv_nonneg (a := a) (b := b) a0 (by omega)
  have d1 := Int.ediv_le_self (a := a) b a0
  by_cases hm : a % b = 0
  · have E : Hid (up a b = a / b) := by show _ = _; unfold up; rw [if_pos hm]; omega
    have k7 : (a % b != 0) = false := by rw [hm]; rfl
    generalize a / b = q at *
    clear hm
    go_enter Tryz.func134, Tryz.ntmps134
    go_wp2_with (go_at_call 164; refine (H.out _).mono ?_; rintro e w' ⟨rfl, rfl⟩)
    go_ret2
    exact ⟨by rw [E.out]; rfl, rfl⟩
  · have E : Hid (up a b = a / b + 1) := by show _ = _; unfold up; rw [if_neg hm]
    have k7 : (a % b != 0) = true := by rw [bne_iff_ne]; exact hm
    generalize a / b = q at *
    clear hm
    go_enter Tryz.func134, Tryz.ntmps134
    go_wp2_with (go_at_call 164; refine (H.out _).mono ?_; rintro e w' ⟨rfl, rfl⟩)
    go_ret2
    exact ⟨by rw [E.out]; rfl, rfl⟩
set_option maxHeartbeats 1000000 in
theorem down_nn (a b : Int) (w : World) (a0 : 0 ≤ a) (a1 : a ≤ 4611686018427387904) (b0 : 0 < b) (b1 : b ≤ 4611686018427387904) : Calls Tryz.prog 167 #[.int .i64 a, .int .i64 b] w fun e w' => e = .returned (.tuple #[.int .i64 (a / b), .int .i64 0]) ∧ w = w' := by
  have H := Lib.hid fun w => half_nn a b w a0 a1 b0 b1
  have k1 : (b == 0) = false := beq_eq_false_iff_ne.2 (by omega)
  have k4 : ¬ b = 0 := by omega
  have k5 : decide (a < 0) = false := decide_eq_false (by omega)
  have k6 : decide (b < 0) = false := decide_eq_false (by omega)
  have q1 : IntKind.i64.wrap (a.tmod b) = a % b := by
    rw [Int.tmod_eq_emod_of_nonneg a0, IntKind.wrap_i64]
    have := Int.emod_nonneg a k4
    have := Int.emod_lt_of_pos a b0
    omega
  generalize a / b = q at *
  cases k7 : a % b != 0
  all_goals
    go_enter Tryz.func167, Tryz.ntmps167
    go_wp2_with (go_at_call 164; refine (H.out _).mono ?_; rintro e w' ⟨rfl, rfl⟩)
    go_ret2
    exact ⟨rfl, rfl⟩

set_option maxHeartbeats 1000000 in
theorem clamp_lo (a lo hi : Int) (w : World) (h0 : lo ≤ hi) : Calls Tryz.prog 166 #[.int .i64 a, .int .i64 lo, .int .i64 hi] w fun e w' => e = .returned (.int .i64 (max lo (min a hi))) ∧ w = w' := by
  by_cases h1 : hi < a
  · have k1 : decide (hi < a) = true := decide_eq_true h1
    go_enter Tryz.func166, Tryz.ntmps166
    go_wp2
    go_ret
    exact ⟨ret_int (by omega), rfl⟩
  · have k1 : decide (hi < a) = false := decide_eq_false h1
    by_cases h2 : a < lo
    · have k2 : decide (a < lo) = true := decide_eq_true h2
      go_enter Tryz.func166, Tryz.ntmps166
      go_wp2
      go_ret
      exact ⟨ret_int (by omega), rfl⟩
    · have k2 : decide (a < lo) = false := decide_eq_false h2
      go_enter Tryz.func166, Tryz.ntmps166
      go_wp2
      go_ret
      exact ⟨ret_int (by omega), rfl⟩

set_option maxHeartbeats 4000000 in
theorem mul64_per (w : World) : Calls Tryz.prog 132 #[.int .u64 10000, .int .u64 700] w fun e w' => e = .returned (.tuple #[.int .u64 0, .int .u64 7000000]) ∧ w = w' := by
  go_enter Tryz.func132, Tryz.ntmps132
  go_wp2
  go_ret2
  exact ⟨by kernel_rfl, rfl⟩

set_option maxHeartbeats 4000000 in
theorem div64_per (w : World) : Calls Tryz.prog 195 #[.int .u64 0, .int .u64 7000000, .int .u64 1000] w fun e w' => e = .returned (.tuple #[.int .u64 7000, .int .u64 0]) ∧ Chg No w w' := by
  go_enter Tryz.func195, Tryz.ntmps195
  go_wp2
  go_quiet (fail)
  go_wp2
  go_ret2
  exact ⟨rfl, (Chg.refl _ _).drewN _⟩

set_option maxHeartbeats 4000000 in
theorem far_per (n : Int) (w : World) (h0 : 0 ≤ n) (h1 : n ≤ 1000000) : Calls Tryz.prog 194 #[.int .i64 n] w fun e w' => e = .returned (.int .u64 n) ∧ w = w' := by
  have k1 : decide (n < 0) = false := decide_eq_false (by omega)
  go_enter Tryz.func194, Tryz.ntmps194
  go_wp2
  go_ret
  exact ⟨rfl, rfl⟩

set_option maxHeartbeats 4000000 in
theorem mul_per (w : World) : Calls Tryz.prog 165 #[.int .i64 10000, .int .i64 700] w fun e w' => e = .returned (.tuple #[.int .i64 7000, .int .i64 0]) ∧ Chg No w w' := by
  go_enter Tryz.func165, Tryz.ntmps165
  go_wp2_with fail
  refine (far_per 10000 _ (by omega) (by omega)).mono ?_
  rintro e w' ⟨rfl, rfl⟩
  go_wp2_with fail
  refine (far_per 700 _ (by omega) (by omega)).mono ?_
  rintro e w' ⟨rfl, rfl⟩
  go_wp2_with fail
  refine (mul64_per _).mono ?_
  rintro e w' ⟨rfl, rfl⟩
  go_wp2_with fail
  refine (div64_per _).mono ?_
  rintro e w' ⟨rfl, hc⟩
  go_wp2
  go_ret2
  exact ⟨rfl, hc⟩

set_option maxHeartbeats 4000000 in
theorem per_any (bu ini li rd : Int) (w : World) : Calls Tryz.prog 135 #[.agg (ca bu ini li rd)] w fun e w' => e = .returned (.int .i64 7000) ∧ Chg No w w' := by
  go_enter Tryz.func135, Tryz.ntmps135
  go_wp2_with fail
  refine (mul_per _).mono ?_
  rintro e w' ⟨rfl, hc⟩
  go_wp2
  go_ret
  exact ⟨rfl, ((Chg.refl No w).alloc _).trans hc⟩

set_option maxHeartbeats 4000000 in
theorem most_any (bu ini li rd : Int) (w : World) : Calls Tryz.prog 66 #[.agg (ca bu ini li rd)] w fun e w' => e = .returned (.int .i64 100) ∧ Chg No w w' := by
  go_enter Tryz.func66, Tryz.ntmps66
  go_wp2
  go_ret
  exact ⟨rfl, (Chg.refl No w).alloc _⟩

set_option maxHeartbeats 1000000 in
theorem number_long (n lo : Int) (w : World) (h0 : lo ≤ 1000000) : Calls Tryz.prog 136 #[.iface 2 (.int .i64 n), .int .i64 lo] w fun e w' => e = .returned (.int .i64 (max lo (min n 1000000))) ∧ w = w' := by
  go_enter Tryz.func136, Tryz.ntmps136
  go_wp2_with (go_at_call 166; refine (clamp_lo n lo 1000000 _ h0).mono ?_; rintro e w' ⟨rfl, rfl⟩)
  go_ret
  exact ⟨rfl, rfl⟩
set_option maxHeartbeats 1000000 in
theorem number_int (n lo : Int) (w : World) (h0 : lo ≤ 1000000) : Calls Tryz.prog 136 #[.iface 3 (.int .i64 n), .int .i64 lo] w fun e w' => e = .returned (.int .i64 (max lo (min n 1000000))) ∧ w = w' := by
  go_enter Tryz.func136, Tryz.ntmps136
  go_wp2_with (go_at_call 166; refine (clamp_lo n lo 1000000 _ h0).mono ?_; rintro e w' ⟨rfl, rfl⟩)
  go_ret
  exact ⟨rfl, rfl⟩

/-- How many pods a mean needs. -/
def wantOf (mean : Int) : Int := min (up mean 7000) 1000000
theorem up_bd {a b : Int} (a0 : 0 ≤ a) (b0 : 0 < b) : 0 ≤ up a b ∧ up a b ≤ a + 1 := by
  have := Int.ediv_nonneg (a := a) (b := b) a0 (by omega)
  have := Int.ediv_le_self (a := a) b a0
  unfold up
  split <;> omega

end Go.Proofs.YtdgphoemjeakaaaGreatDoor.P

/-! Packages want, rate: what their functions give. -/
namespace Go.Proofs.YtdgphoemjeakaaaGreatDoor.P
open Go.RowKit Go.Proofs.YtdgphoemjeakaaaGreatDoor.K
set_option maxRecDepth 100000

set_option maxHeartbeats 4000000 in
theorem want_of (hm : Said.may) (bu ini li rd : Int) (ok : Ok bu ini li rd) (mean : Int) (w : World) (m0 : 0 ≤ mean) (m1 : mean ≤ 1152921504606846976) : Calls Tryz.prog 95 #[.agg (ca bu ini li rd), .int .i64 mean] w fun e w' => e = .returned (.int .i64 (wantOf mean)) ∧ Chg No w w' := by
  have HM := Lib.hid (hm bu ini li rd ok)
  have HP := Lib.hid (per_any bu ini li rd)
  clear hm ok
  have HU := Lib.hid fun w => up_nn mean 7000 w m0 (by omega) (by omega) (by omega)
  have HE : Hid (wantOf mean = max 0 (min (up mean 7000) 1000000)) := by
    show _ = _
    obtain ⟨u0, u1⟩ := up_bd (a := mean) (b := 7000) m0 (by omega)
    unfold wantOf
    omega
  go_enter Tryz.func95, Tryz.ntmps95
  go_wp2_with fail
  refine (HM.out _).mono ?_
  rintro e w1 ⟨rfl, hc⟩
  have hB := (Blk.new w (ca bu ini li rd) 24).kept hc
  have hr := rowOf_blk hB
  rw [ca_size] at hr
  have HC := Lib.hid (((Chg.refl No w).alloc _).trans hc)
  clear hB hc
  go_wp2_with fail
  refine (HP.out _).mono ?_
  rintro e w2 ⟨rfl, hc⟩
  have HC2 := Lib.hid (HC.out.trans hc)
  clear hc hr
  go_wp2_with fail
  refine (HU.out _).mono ?_
  rintro e w' ⟨rfl, rfl⟩
  go_wp2_with (go_at_call 136; refine (number_long _ _ _ (by omega)).mono ?_; rintro e w' ⟨rfl, rfl⟩)
  go_ret
  exact ⟨by rw [HE.out]; rfl, HC2.out⟩

theorem quiet_left {P : Program} {f : FuncId} {args : Array Value} {w : World} {n : Nat} {v : Value}
    (h : Calls P f args (w.drewN n) fun e w' => e = .returned v ∧ w.drewN n = w') : Calls P f args (w.drewN n) fun e w'' => e = .returned v ∧ ∃ m, w'' = w.drewN m :=
  h.mono fun _ _ ⟨he, hm⟩ => ⟨he, n, hm.symm⟩

/-- What is known of the boxed settings. -/
theorem keep_ca {w w' : World} {B : Nat} {bu ini li rd : Int} (h : Blk w B (ca bu ini li rd) 24) (c : Chg No w w') : Blk w' B (ca bu ini li rd) 24 ∧ rowOf w' B 0 20 = some (.agg (ca bu ini li rd)) :=
  ⟨h.kept c, rowOf_blk (h.kept c)⟩
theorem cell_ca {w : World} {B : Nat} {bu ini li rd : Int} (h : Blk w B (ca bu ini li rd) 24) (j : Nat) : w.cell? ⟨B, j, none⟩ = (ca bu ini li rd)[j]? := h.cell j

/-- What is known of the boxed settings, and of one of their cells, in a region that draws its order. -/
def Ks (bu ini li rd : Int) (B j : Nat) (v : Value) (w1 w' : World) : Prop := Chg No w1 w' ∧ Blk w' B (ca bu ini li rd) 24 ∧ (ca bu ini li rd)[j]? = some v
theorem keepS {bu ini li rd : Int} {B j : Nat} {v : Value} {w1 w2 w3 : World} (hc : Chg No w2 w3) (h : Hid (Ks bu ini li rd B j v w1 w2) ∧ rowOf w2 B 0 20 = some (.agg (ca bu ini li rd)) ∧ w2.cell? ⟨B, j, none⟩ = some v) : Hid (Ks bu ini li rd B j v w1 w3) ∧ rowOf w3 B 0 20 = some (.agg (ca bu ini li rd)) ∧ w3.cell? ⟨B, j, none⟩ = some v := by
  obtain ⟨⟨h1, h2, h3⟩, _, _⟩ := h
  exact ⟨⟨h1.trans hc, h2.kept hc, h3⟩, rowOf_blk (h2.kept hc), (cell_ca (h2.kept hc) j).trans h3⟩
theorem startS {bu ini li rd : Int} {B j : Nat} {v : Value} {w1 : World} (h : Blk w1 B (ca bu ini li rd) 24) (hv : (ca bu ini li rd)[j]? = some v) : Hid (Ks bu ini li rd B j v w1 w1.drew) ∧ rowOf w1.drew B 0 20 = some (.agg (ca bu ini li rd)) ∧ w1.drew.cell? ⟨B, j, none⟩ = some v :=
  ⟨⟨(Chg.refl No w1).drew, h, hv⟩, rowOf_blk h, (cell_ca h j).trans hv⟩

/-- Are far more wanted than there are? -/
def over (want ready : Int) : Bool := decide (2000 * max 1 (min ready 1000000) ≤ max 0 (min want 1000000) * 1000)

set_option maxHeartbeats 4000000 in
theorem want_over (hm : Said.may) (bu ini li rd : Int) (ok : Ok bu ini li rd) (want ready : Int) (w : World) : Calls Tryz.prog 97 #[.agg (ca bu ini li rd), .int .i64 want, .int .i64 ready] w fun e w' => e = .returned (.bool (over want ready)) ∧ Chg No w w' := by
  have HM := Lib.hid (hm bu ini li rd ok)
  clear hm ok
  obtain ⟨a, ha⟩ : ∃ a, max 0 (min want 1000000) = a := ⟨_, rfl⟩
  obtain ⟨b, hb⟩ : ∃ b, max 1 (min ready 1000000) = b := ⟨_, rfl⟩
  have HE : Hid (over want ready = decide (2000 * b ≤ a * 1000)) := by show _ = _; unfold over; rw [ha, hb]
  have a0 : 0 ≤ a := by omega
  have a1 : a ≤ 1000000 := by omega
  have b0 : 1 ≤ b := by omega
  have b1 : b ≤ 1000000 := by omega
  go_enter Tryz.func97, Tryz.ntmps97
  go_wp2_with fail
  have hB : Blk (w.alloc (.cells (ca bu ini li rd) 24)) w.heap.size (ca bu ini li rd) 24 := Blk.new _ _ _
  have HC : Hid (Chg No w (w.alloc (.cells (ca bu ini li rd) 24))) := (Chg.refl No w).alloc _
  generalize w.alloc (.cells (ca bu ini li rd) 24) = w1 at *
  generalize w.heap.size = B at *
  have hr := rowOf_blk hB
  rw [ca_size] at hr
  have c5 : w1.cell? ⟨B, 5, none⟩ = some (.int .i64 2000) := cell_ca hB 5
  have hS := startS hB (j := 5) rfl
  go_region_held3 (fun w' => Hid (Ks bu ini li rd B 5 (.int .i64 2000) w1 w') ∧ rowOf w' B 0 20 = some (.agg (ca bu ini li rd)) ∧ w'.cell? ⟨B, 5, none⟩ = some (.int .i64 2000)) (first | exact hS | assumption | exact keepS hc (by assumption)) (first | (go_at_call 16; refine (HM.out _).mono ?_; rintro e w2 ⟨rfl, hc⟩) | (go_at_call 136; refine (number_int _ _ _ (by omega)).mono ?_; rintro e w' ⟨rfl, rfl⟩))
  all_goals
    go_wp2
    go_ret
    have e1 : IntKind.i64.wrap (2000 * b) = 2000 * b := by rw [IntKind.wrap_i64]; omega
    have e2 : IntKind.i64.wrap (a * 1000) = a * 1000 := by rw [IntKind.wrap_i64]; omega
    exact ⟨by rw [HE.out]; show Ending.returned (.bool (decide (IntKind.i64.wrap (2000 * b) ≤ IntKind.i64.wrap (a * 1000)))) = _; rw [e1, e2], HC.out.trans (((Chg.refl No w1).drew).trans hc)⟩

set_option maxHeartbeats 1000000 in
theorem there_any (n lo : Int) (w : World) (n0 : 0 ≤ n) (n1 : n ≤ 1000) (l1 : lo ≤ 1) : Calls Tryz.prog 168 #[.iface 3 (.int .i64 n), .int .i64 lo] w fun e w' => e = .returned (.int .i64 (max n lo)) ∧ w = w' := by
  go_enter Tryz.func168, Tryz.ntmps168
  go_wp2
  all_goals
    go_ret
    exact ⟨ret_int (by omega), rfl⟩

theorem up_most {m : Int} : up (10000 * m) 1000 = 10 * m := by
  unfold up
  rw [if_pos (by omega)]
  omega
theorem half_least {m : Int} : 1000 * m / 2000 = m / 2 := by omega

set_option maxHeartbeats 4000000 in
theorem rate_most (hm : Said.may) (bu ini li rd : Int) (ok : Ok bu ini li rd) (ready : Int) (w : World) (r0 : 0 ≤ ready) (r1 : ready ≤ 1000) : Calls Tryz.prog 138 #[.agg (ca bu ini li rd), .int .i64 ready] w fun e w' => e = .returned (.int .i64 (10 * max ready 1)) ∧ Chg No w w' := by
  have HM := Lib.hid (hm bu ini li rd ok)
  clear hm ok
  obtain ⟨m, hm⟩ : ∃ m, max ready 1 = m := ⟨_, rfl⟩
  have m0 : 1 ≤ m := by omega
  have m1 : m ≤ 1000 := by omega
  have HU := Lib.hid fun w => up_nn (10000 * m) 1000 w (by omega) (by omega) (by omega) (by omega)
  have HT := Lib.hid fun w => there_any ready 1 w r0 r1 (by omega)
  rw [hm] at HT ⊢
  rw [up_most] at HU
  have w1' : IntKind.i64.wrap (10000 * m) = 10000 * m := by rw [IntKind.wrap_i64]; omega
  clear hm
  go_enter Tryz.func138, Tryz.ntmps138
  go_wp2_with fail
  refine (HM.out _).mono ?_
  rintro e w1 ⟨rfl, hc⟩
  have hB := (Blk.new w (ca bu ini li rd) 24).kept hc
  have c6 : w1.cell? ⟨w.heap.size, 6, none⟩ = some (.int .i64 10000) := cell_ca hB 6
  have HC := Lib.hid (((Chg.refl No w).alloc _).trans hc)
  clear hB hc
  go_wp2_with fail
  go_quiet (first | (go_at_call 168; with_reducible exact quiet_left (HT.out _)) | (go_at_call 134; with_reducible exact quiet_left (HU.out _)))
  go_wp2
  all_goals
    go_ret
    exact ⟨ret_int (by omega), HC.out.drewN _⟩

set_option maxHeartbeats 4000000 in
theorem rate_least (hm : Said.may) (bu ini li rd : Int) (ok : Ok bu ini li rd) (ready : Int) (w : World) (r0 : 0 ≤ ready) (r1 : ready ≤ 1000) : Calls Tryz.prog 137 #[.agg (ca bu ini li rd), .int .i64 ready] w fun e w' => e = .returned (.int .i64 (ready / 2)) ∧ Chg No w w' := by
  have HM := Lib.hid (hm bu ini li rd ok)
  clear hm ok
  have HU := Lib.hid fun w => down_nn (1000 * ready) 2000 w (by omega) (by omega) (by omega) (by omega)
  have HT := Lib.hid fun w => there_any ready 0 w r0 r1 (by omega)
  rw [show max ready 0 = ready by omega] at HT
  rw [half_least] at HU
  have w1' : IntKind.i64.wrap (1000 * ready) = 1000 * ready := by rw [IntKind.wrap_i64]; omega
  go_enter Tryz.func137, Tryz.ntmps137
  go_wp2_with fail
  refine (HM.out _).mono ?_
  rintro e w1 ⟨rfl, hc⟩
  have hB := (Blk.new w (ca bu ini li rd) 24).kept hc
  have c7 : w1.cell? ⟨w.heap.size, 7, none⟩ = some (.int .i64 2000) := cell_ca hB 7
  have HC := Lib.hid (((Chg.refl No w).alloc _).trans hc)
  clear hB hc
  go_wp2_with fail
  go_quiet (first | (go_at_call 168; with_reducible exact quiet_left (HT.out _)) | (go_at_call 167; with_reducible exact quiet_left (HU.out _)))
  go_wp2
  go_ret
  exact ⟨rfl, HC.out.drewN _⟩

/-- How many there are next. -/
def limit (want ready : Int) : Int := min (max want (ready / 2)) (10 * max ready 1)
set_option maxHeartbeats 4000000 in
theorem rate_limit (hm : Said.may) (bu ini li rd : Int) (ok : Ok bu ini li rd) (want ready : Int) (w : World) (r0 : 0 ≤ ready) (r1 : ready ≤ 1000) : Calls Tryz.prog 98 #[.agg (ca bu ini li rd), .int .i64 want, .int .i64 ready] w fun e w' => e = .returned (.int .i64 (limit want ready)) ∧ Chg No w w' := by
  have HM := Lib.hid (hm bu ini li rd ok)
  have HX := Lib.hid fun w => rate_most hm bu ini li rd ok ready w r0 r1
  have HL := Lib.hid fun w => rate_least hm bu ini li rd ok ready w r0 r1
  clear hm ok
  have HE : Hid (limit want ready = min (max want (ready / 2)) (10 * max ready 1)) := by show _ = _; rfl
  obtain ⟨m, hm⟩ : ∃ m, 10 * max ready 1 = m := ⟨_, rfl⟩
  obtain ⟨lf, hh⟩ : ∃ h, ready / 2 = h := ⟨_, rfl⟩
  rw [hm] at HX HE
  rw [hh] at HL HE
  clear hm hh
  go_enter Tryz.func98, Tryz.ntmps98
  go_wp2_with fail
  refine (HM.out _).mono ?_
  rintro e w1 ⟨rfl, hc⟩
  have hB := (Blk.new w (ca bu ini li rd) 24).kept hc
  have HC := Lib.hid (((Chg.refl No w).alloc _).trans hc)
  have hr := rowOf_blk hB
  rw [ca_size] at hr
  clear hc
  go_wp2_with fail
  have hS := startS hB (j := 0) rfl
  by_cases h1 : want < lf
  · by_cases h2 : m < lf
    all_goals
      go_region_held3 (fun w' => Hid (Ks bu ini li rd w.heap.size 0 (.int .i64 10000) w1 w') ∧ rowOf w' w.heap.size 0 20 = some (.agg (ca bu ini li rd)) ∧ w'.cell? ⟨w.heap.size, 0, none⟩ = some (.int .i64 10000)) (first | exact hS | assumption | exact keepS hc (by assumption)) (first | (go_at_call 137; refine (HL.out _).mono ?_; rintro e w2 ⟨rfl, hc⟩) | (go_at_call 138; refine (HX.out _).mono ?_; rintro e w3 ⟨rfl, hc2⟩; have hc1 := hc; clear hc; have hc := hc2))
      all_goals
        go_wp2
        all_goals
          go_ret
          refine ⟨by rw [HE.out]; exact ret_int (by omega), HC.out.trans ?_⟩
          exact (((Chg.refl No w1).drew).trans hc1).trans hc2
  · by_cases h2 : m < want
    all_goals
      go_region_held3 (fun w' => Hid (Ks bu ini li rd w.heap.size 0 (.int .i64 10000) w1 w') ∧ rowOf w' w.heap.size 0 20 = some (.agg (ca bu ini li rd)) ∧ w'.cell? ⟨w.heap.size, 0, none⟩ = some (.int .i64 10000)) (first | exact hS | assumption | exact keepS hc (by assumption)) (first | (go_at_call 137; refine (HL.out _).mono ?_; rintro e w2 ⟨rfl, hc⟩) | (go_at_call 138; refine (HX.out _).mono ?_; rintro e w3 ⟨rfl, hc2⟩; have hc1 := hc; clear hc; have hc := hc2))
      all_goals
        go_wp2
        all_goals
          go_ret
          refine ⟨by rw [HE.out]; exact ret_int (by omega), HC.out.trans ?_⟩
          exact (((Chg.refl No w1).drew).trans hc1).trans hc2

end Go.Proofs.YtdgphoemjeakaaaGreatDoor.P

/-! Packages alarm, zero, burst: what their functions give. -/
namespace Go.Proofs.YtdgphoemjeakaaaGreatDoor.P
open Go.RowKit Go.Proofs.YtdgphoemjeakaaaGreatDoor.K
set_option maxRecDepth 100000

def mode (since most : Int) : Value := .agg #[.int .i64 since, .int .i64 most]

set_option maxHeartbeats 1000000 in
theorem calm_any (w : World) : Calls Tryz.prog 42 #[] w fun e w' => e = .returned (.agg #[.int .i64 (-1), .int .i64 0]) ∧ Chg No w w' := by
  go_enter Tryz.func42, Tryz.ntmps42
  go_wp2
  go_returns
  exact ⟨rfl, (Chg.refl No w).alloc _⟩

set_option maxHeartbeats 1000000 in
theorem panics_any (since most : Int) (w : World) : Calls Tryz.prog 139 #[.iface 91 (.agg #[.int .i64 since, .int .i64 most])] w fun e w' => e = .returned (.bool (decide (0 ≤ since))) ∧ Chg No w w' := by
  go_enter Tryz.func139, Tryz.ntmps139
  go_wp2
  go_returns
  exact ⟨rfl, (Chg.refl No w).alloc _⟩

set_option maxHeartbeats 1000000 in
theorem is_any (since most : Int) (w : World) : Calls Tryz.prog 99 #[.agg #[.int .i64 since, .int .i64 most]] w fun e w' => e = .returned (.bool (decide (0 ≤ since))) ∧ Chg No w w' := by
  go_enter Tryz.func99, Tryz.ntmps99
  go_wp2_with fail
  refine (panics_any _ _ _).mono ?_
  rintro e w1 ⟨rfl, hc⟩
  go_wp2
  go_returns
  exact ⟨rfl, ((Chg.refl No w).alloc _).trans hc⟩

/-- Two blocks that are new, behind a call that turned nothing. -/
theorem two_new {w w1 : World} {c1 c2 : Array Value} {t1 t2 : TypeId} (hc : Chg No ((w.alloc (.cells c1 t1)).alloc (.cells c2 t2)) w1) : Blk w1 w.heap.size c1 t1 ∧ Blk w1 (w.heap.size + 1) c2 t2 ∧ Chg No w w1 := by
  refine ⟨((Blk.new w c1 t1).alloc _).kept hc, ?_, (((Chg.refl No w).alloc _).alloc _).trans hc⟩
  have := (Blk.new (w.alloc (.cells c1 t1)) c2 t2).kept hc
  simpa using this
theorem _root_.Go.Proofs.YtdgphoemjeakaaaGreatDoor.K.Chg.set_new {S : Nat → Prop} {w w' : World} (h : Chg S w w') {b j : Nat} (hb : w.heap.size ≤ b) (v : Value) : Chg S w (w'.setCell ⟨b, j, none⟩ v) := h.set (a := ⟨b, j, none⟩) (fun hlt => absurd hlt (by show ¬ b < _; omega)) v

/-- How many are wanted in panic: never fewer. -/
def keep (since most want : Int) : Int × Int := if 0 ≤ since then (max most want, max most want) else (most, want)
set_option maxHeartbeats 1000000 in
theorem keep_any (since most want : Int) (w : World) : Calls Tryz.prog 101 #[.agg #[.int .i64 since, .int .i64 most], .int .i64 want] w fun e w' => e = .returned (.tuple #[.agg #[.int .i64 since, .int .i64 (keep since most want).1], .int .i64 (keep since most want).2]) ∧ Chg No w w' := by
  have HI := Lib.hid fun w => is_any since most w
  by_cases hs : 0 ≤ since
  · have hd : decide (0 ≤ since) = true := decide_eq_true hs
    rw [hd] at HI
    have HE : Hid (keep since most want = (max most want, max most want)) := if_pos hs
    clear hd hs
    by_cases hm : most < want
    all_goals
      go_enter Tryz.func101, Tryz.ntmps101
      go_wp2_with fail
      refine (HI.out _).mono ?_
      rintro e w1 ⟨rfl, hc⟩
      obtain ⟨hA, hR, hC⟩ := two_new hc
      have a0 : w1.cell? ⟨w.heap.size, 0, none⟩ = some (.int .i64 since) := Blk.cell hA 0
      have a1 : w1.cell? ⟨w.heap.size, 1, none⟩ = some (.int .i64 most) := Blk.cell hA 1
      have r0 : w1.cell? ⟨w.heap.size + 1, 0, none⟩ = some (.int .i64 0) := Blk.cell hR 0
      have r1 : w1.cell? ⟨w.heap.size + 1, 1, none⟩ = some (.int .i64 0) := Blk.cell hR 1
      have f1 := Blk.free hA 1
      have g0 := Blk.free hR 0
      have g1 := Blk.free hR 1
      have HC := Lib.hid hC
      generalize hB0 : w.heap.size = B at *
      have HB0 := Lib.hid hB0
      clear hc hA hR hC hB0
      go_wp2
      go_region
      all_goals
        go_wp2
        try simp only [Exit.inBlock, Exit.then]
        refine bodyPost_ret (by simp [results, Tryz.results101, go_sem, r0, r1]; rfl) rfl ?_
        rw [HE.out]
        refine ⟨by first | rw [Int.max_eq_right (by omega)] | rw [Int.max_eq_left (by omega)], ?_⟩
        have hB := HB0.out
        first
        | exact (((HC.out.set_new (by omega) _).set_new (by omega) _).set_new (by omega) _).drew
        | exact ((HC.out.set_new (by omega) _).set_new (by omega) _).set_new (by omega) _
  · have hd : decide (0 ≤ since) = false := decide_eq_false hs
    rw [hd] at HI
    have HE : Hid (keep since most want = (most, want)) := if_neg hs
    clear hd hs
    go_enter Tryz.func101, Tryz.ntmps101
    go_wp2_with fail
    refine (HI.out _).mono ?_
    rintro e w1 ⟨rfl, hc⟩
    obtain ⟨hA, hR, hC⟩ := two_new hc
    have a0 : w1.cell? ⟨w.heap.size, 0, none⟩ = some (.int .i64 since) := Blk.cell hA 0
    have a1 : w1.cell? ⟨w.heap.size, 1, none⟩ = some (.int .i64 most) := Blk.cell hA 1
    have r0 : w1.cell? ⟨w.heap.size + 1, 0, none⟩ = some (.int .i64 0) := Blk.cell hR 0
    have r1 : w1.cell? ⟨w.heap.size + 1, 1, none⟩ = some (.int .i64 0) := Blk.cell hR 1
    have g0 := Blk.free hR 0
    have g1 := Blk.free hR 1
    have HC := Lib.hid hC
    generalize hB0 : w.heap.size = B at *
    have HB0 := Lib.hid hB0
    clear hc hA hR hC hB0
    go_wp2
    try simp only [Exit.inBlock, Exit.then]
    refine bodyPost_ret (by simp [results, Tryz.results101, go_sem, r0, r1]; rfl) rfl ?_
    rw [HE.out]
    have hB := HB0.out
    exact ⟨rfl, (HC.out.set_new (by omega) _).set_new (by omega) _⟩

/-- The mode at a time. -/
def nextMode (since most now : Int) (over : Bool) : Int × Int := if over then (if 0 ≤ since then (now, most) else (now, 0)) else if 0 ≤ since ∧ 60 ≤ now - since then (-1, 0) else (since, most)

set_option maxHeartbeats 4000000 in
theorem next_mode (hm : Said.may) (bu ini li rd : Int) (ok : Ok bu ini li rd) (since most now : Int) (over : Bool) (w : World) (n0 : 0 ≤ now) (n1 : now ≤ 1099511627776) (s0 : -1 ≤ since) (s1 : since ≤ 1099511627776) :
    Calls Tryz.prog 96 #[.agg (ca bu ini li rd), .agg #[.int .i64 since, .int .i64 most], .int .i64 now, .bool over] w fun e w' => e = .returned (.agg #[.int .i64 (nextMode since most now over).1, .int .i64 (nextMode since most now over).2]) ∧ Chg No w w' := by
  have HM := Lib.hid (hm bu ini li rd ok)
  have HI := Lib.hid fun w => is_any since most w
  clear hm ok
  have k1 : decide (now < 0) = false := decide_eq_false (by omega)
  have k2 : decide (1099511627776 < now) = false := decide_eq_false (by omega)
  obtain ⟨d, hd⟩ : ∃ d, decide (0 ≤ since) = d := ⟨_, rfl⟩
  obtain ⟨x, hx⟩ : ∃ x, decide (60 ≤ now - since) = x := ⟨_, rfl⟩
  have HE : Hid (nextMode since most now over = if over then (if d then (now, most) else (now, 0)) else if d && x then (-1, 0) else (since, most)) := by
    show _ = _
    unfold nextMode
    rw [← hd, ← hx]
    by_cases a : 0 ≤ since <;> by_cases b : 60 ≤ now - since <;> simp [a, b]
  rw [hd] at HI
  clear hd
  have hr0 : rowOf (((w.alloc (.cells (ca bu ini li rd) 24)).alloc (.cells #[.int .i64 since, .int .i64 most] 91)).alloc (.cells #[.int .i64 0, .int .i64 0] 91)) w.heap.size 0 20 = some (.agg (ca bu ini li rd)) := rowOf_blk (((Blk.new w (ca bu ini li rd) 24).alloc _).alloc _)
  go_enter Tryz.func96, Tryz.ntmps96
  go_wp2_with fail
  refine (HM.out _).mono ?_
  rintro e w1 ⟨rfl, hc⟩
  have hN := (Blk.new w (ca bu ini li rd) 24)
  have hA := ((hN.alloc (.cells #[.int .i64 since, .int .i64 most] 91)).alloc (.cells #[.int .i64 0, .int .i64 0] 91)).kept hc
  obtain ⟨hM, hR, hC⟩ := two_new hc
  have e1 : (w.alloc (.cells (ca bu ini li rd) 24)).heap.size = w.heap.size + 1 := by simp
  rw [e1] at hM hR
  have HA := Lib.hid hA
  have HC := Lib.hid (((Chg.refl No w).alloc _).trans hC)
  clear hN hA hC hc hr0 e1
  generalize hB0 : w.heap.size = B at *
  have HB0 := Lib.hid hB0
  clear hB0
  cases over
  · -- no alarm
    have m0 : w1.cell? ⟨B + 1, 0, none⟩ = some (.int .i64 since) := Blk.cell hM 0
    have m1 : w1.cell? ⟨B + 1, 1, none⟩ = some (.int .i64 most) := Blk.cell hM 1
    have HM2 := Lib.hid hM
    have HR := Lib.hid hR
    clear hM hR
    go_wp2_with fail
    refine (HI.out _).mono ?_
    rintro e w2 ⟨rfl, hc⟩
    have c2 : w2.cell? ⟨B, 2, none⟩ = some (.int .i64 60) := cell_ca (HA.out.kept hc) 2
    have m0 : w2.cell? ⟨B + 1, 0, none⟩ = some (.int .i64 since) := Blk.cell (HM2.out.kept hc) 0
    have m1 : w2.cell? ⟨B + 1, 1, none⟩ = some (.int .i64 most) := Blk.cell (HM2.out.kept hc) 1
    have r0 : w2.cell? ⟨B + 1 + 1, 0, none⟩ = some (.int .i64 0) := Blk.cell (HR.out.kept hc) 0
    have r1 : w2.cell? ⟨B + 1 + 1, 1, none⟩ = some (.int .i64 0) := Blk.cell (HR.out.kept hc) 1
    have g0 := Blk.free (HR.out.kept hc) 0
    have g1 := Blk.free (HR.out.kept hc) 1
    have HC2 := Lib.hid (HC.out.trans hc)
    have HR2 := Lib.hid (HR.out.kept hc)
    clear hc
    cases d <;> cases x
    case true.true =>
      go_wp2_with fail
      refine (calm_any _).mono ?_
      rintro e w3 ⟨rfl, hc⟩
      have r0 : w3.cell? ⟨B + 1 + 1, 0, none⟩ = some (.int .i64 0) := Blk.cell (HR2.out.kept hc) 0
      have r1 : w3.cell? ⟨B + 1 + 1, 1, none⟩ = some (.int .i64 0) := Blk.cell (HR2.out.kept hc) 1
      have g0 := Blk.free (HR2.out.kept hc) 0
      have g1 := Blk.free (HR2.out.kept hc) 1
      have HC3 := Lib.hid (HC2.out.trans hc)
      clear hc
      go_wp2
      try simp only [Exit.inBlock, Exit.then]
      refine bodyPost_ret (by simp [results, Tryz.results96, go_sem, r0, r1]; rfl) rfl ?_
      rw [HE.out]
      have hB := HB0.out
      exact ⟨rfl, (HC3.out.set_new (by omega) _).set_new (by omega) _⟩
    all_goals
      go_wp2
      try simp only [Exit.inBlock, Exit.then]
      refine bodyPost_ret (by simp [results, Tryz.results96, go_sem, r0, r1]; rfl) rfl ?_
      rw [HE.out]
      have hB := HB0.out
      exact ⟨rfl, (HC2.out.set_new (by omega) _).set_new (by omega) _⟩
  · have m0 : w1.cell? ⟨B + 1, 0, none⟩ = some (.int .i64 since) := Blk.cell hM 0
    have m1 : w1.cell? ⟨B + 1, 1, none⟩ = some (.int .i64 most) := Blk.cell hM 1
    have HM2 := Lib.hid hM
    have HR := Lib.hid hR
    clear hM hR
    go_wp2_with fail
    refine (HI.out _).mono ?_
    rintro e w2 ⟨rfl, hc⟩
    have m0 : w2.cell? ⟨B + 1, 0, none⟩ = some (.int .i64 since) := Blk.cell (HM2.out.kept hc) 0
    have m1 : w2.cell? ⟨B + 1, 1, none⟩ = some (.int .i64 most) := Blk.cell (HM2.out.kept hc) 1
    have f0 := Blk.free (HM2.out.kept hc) 0
    have r0 : w2.cell? ⟨B + 1 + 1, 0, none⟩ = some (.int .i64 0) := Blk.cell (HR.out.kept hc) 0
    have r1 : w2.cell? ⟨B + 1 + 1, 1, none⟩ = some (.int .i64 0) := Blk.cell (HR.out.kept hc) 1
    have g0 := Blk.free (HR.out.kept hc) 0
    have g1 := Blk.free (HR.out.kept hc) 1
    have HC2 := Lib.hid (HC.out.trans hc)
    clear hc
    cases d
    all_goals
      go_wp2
      try simp only [Exit.inBlock, Exit.then]
      refine bodyPost_ret (by simp [results, Tryz.results96, go_sem, r0, r1]; rfl) rfl ?_
      rw [HE.out]
      have hB := HB0.out
      first
      | exact ⟨rfl, (HC2.out.set_new (by omega) _).set_new (by omega) _⟩
      | exact ⟨rfl, ((HC2.out.set_new (by omega) _).set_new (by omega) _).set_new (by omega) _⟩

/-- Since when the activator is in the way. -/
def nextState (since now : Int) (proxy : Bool) : Int := if proxy then (if 0 ≤ since then since else now) else -1
set_option maxHeartbeats 1000000 in
theorem state_new (w : World) : Calls Tryz.prog 20 #[] w fun e w' => e = .returned (.agg #[.int .i64 (-1)]) ∧ Chg No w w' := by
  go_enter Tryz.func20, Tryz.ntmps20
  go_wp2
  go_returns
  exact ⟨rfl, (Chg.refl No w).alloc _⟩
set_option maxHeartbeats 1000000 in
theorem since_any (since : Int) (w : World) : Calls Tryz.prog 103 #[.iface 60 (.agg #[.int .i64 since])] w fun e w' => e = .returned (.int .i64 since) ∧ Chg No w w' := by
  go_enter Tryz.func103, Tryz.ntmps103
  go_wp2
  go_returns
  exact ⟨rfl, (Chg.refl No w).alloc _⟩
set_option maxHeartbeats 1000000 in
theorem zero_next (since now : Int) (proxy : Bool) (w : World) : Calls Tryz.prog 64 #[.agg #[.int .i64 since], .int .i64 now, .bool proxy] w fun e w' => e = .returned (.agg #[.int .i64 (nextState since now proxy)]) ∧ Chg No w w' := by
  have HS := Lib.hid fun w => since_any since w
  cases proxy
  · go_enter Tryz.func64, Tryz.ntmps64
    go_wp2_with fail
    refine (state_new _).mono ?_
    rintro e w1 ⟨rfl, hc⟩
    obtain ⟨hM, hR, hC⟩ := two_new hc
    have r0 : w1.cell? ⟨w.heap.size + 1, 0, none⟩ = some (.int .i64 0) := Blk.cell hR 0
    have g0 := Blk.free hR 0
    have HC := Lib.hid hC
    clear hM hR hC hc
    go_wp2
    try simp only [Exit.inBlock, Exit.then]
    refine bodyPost_ret (by simp [results, Tryz.results64, go_sem, r0]; rfl) rfl ?_
    exact ⟨rfl, HC.out.set_new (by omega) _⟩
  · obtain ⟨d, hd⟩ : ∃ d, decide (0 ≤ since) = d := ⟨_, rfl⟩
    have HE : Hid (nextState since now true = if d then since else now) := by show _ = _; unfold nextState; rw [← hd]; simp
    go_enter Tryz.func64, Tryz.ntmps64
    go_wp2_with fail
    refine (HS.out _).mono ?_
    rintro e w1 ⟨rfl, hc⟩
    obtain ⟨hM, hR, hC⟩ := two_new hc
    have m0 : w1.cell? ⟨w.heap.size, 0, none⟩ = some (.int .i64 since) := Blk.cell hM 0
    have r0 : w1.cell? ⟨w.heap.size + 1, 0, none⟩ = some (.int .i64 0) := Blk.cell hR 0
    have g0 := Blk.free hR 0
    have HC := Lib.hid hC
    clear hM hR hC hc
    cases d
    all_goals
      go_wp2
      try simp only [Exit.inBlock, Exit.then]
      refine bodyPost_ret (by simp [results, Tryz.results64, go_sem, r0]; rfl) rfl ?_
      rw [HE.out]
      exact ⟨rfl, HC.out.set_new (by omega) _⟩

end Go.Proofs.YtdgphoemjeakaaaGreatDoor.P

/-! Packages zero (May, Want), burst, event: what their functions give. -/
namespace Go.Proofs.YtdgphoemjeakaaaGreatDoor.P
open Go.RowKit Go.Proofs.YtdgphoemjeakaaaGreatDoor.K
set_option maxRecDepth 100000

/-- May the last one go? -/
def mayGo (since now mean waiting busy : Int) : Bool := mean == 0 && (waiting == 0 && (busy == 0 && (decide (0 ≤ since) && (decide (since ≤ now) && decide (30 ≤ now - since)))))

set_option maxHeartbeats 4000000 in
theorem zero_may (hm : Said.may) (bu ini li rd : Int) (ok : Ok bu ini li rd) (since now mean waiting busy : Int) (w : World) (n0 : 0 ≤ now) (n1 : now ≤ 1099511627776) (s0 : -1 ≤ since) (s1 : since ≤ 1099511627776) :
    Calls Tryz.prog 104 #[.agg (ca bu ini li rd), .agg #[.int .i64 since], .int .i64 now, .int .i64 mean, .int .i64 waiting, .int .i64 busy] w fun e w' => e = .returned (.bool (mayGo since now mean waiting busy)) ∧ Chg No w w' := by
  have HM := Lib.hid (hm bu ini li rd ok)
  have HS := Lib.hid fun w => since_any since w
  clear hm ok
  obtain ⟨x1, h1⟩ : ∃ x, (mean == 0) = x := ⟨_, rfl⟩
  obtain ⟨x2, h2⟩ : ∃ x, (waiting == 0) = x := ⟨_, rfl⟩
  obtain ⟨x3, h3⟩ : ∃ x, (busy == 0) = x := ⟨_, rfl⟩
  obtain ⟨x4, h4⟩ : ∃ x, decide (0 ≤ since) = x := ⟨_, rfl⟩
  obtain ⟨x5, h5⟩ : ∃ x, decide (since ≤ now) = x := ⟨_, rfl⟩
  obtain ⟨x6, h6⟩ : ∃ x, decide (30 ≤ now - since) = x := ⟨_, rfl⟩
  have HE : Hid (mayGo since now mean waiting busy = (x1 && (x2 && (x3 && (x4 && (x5 && x6)))))) := by show _ = _; unfold mayGo; rw [h1, h2, h3, h4, h5, h6]
  have hr0 : rowOf ((w.alloc (.cells (ca bu ini li rd) 24)).alloc (.cells #[.int .i64 since] 60)) w.heap.size 0 20 = some (.agg (ca bu ini li rd)) := rowOf_blk ((Blk.new w (ca bu ini li rd) 24).alloc _)
  go_enter Tryz.func104, Tryz.ntmps104
  go_wp2_with fail
  refine (HS.out _).mono ?_
  rintro e w1 ⟨rfl, hc⟩
  obtain ⟨hA, hM, hC⟩ := two_new hc
  have hr := rowOf_blk hA
  rw [ca_size] at hr
  have HA := Lib.hid hA
  have HC := Lib.hid hC
  clear hr0 hA hM hC hc
  go_wp2_with fail
  refine (HM.out _).mono ?_
  rintro e w2 ⟨rfl, hc⟩
  have c8 : w2.cell? ⟨w.heap.size, 8, none⟩ = some (.int .i64 0) := cell_ca (HA.out.kept hc) 8
  have c11 : w2.cell? ⟨w.heap.size, 11, none⟩ = some (.int .i64 30) := cell_ca (HA.out.kept hc) 11
  have HC2 := Lib.hid (HC.out.trans hc)
  clear hc hr
  cases x1
  · go_wp2
    go_ret
    exact ⟨by rw [HE.out]; rfl, HC2.out⟩
  cases x2
  · go_wp2
    go_ret
    exact ⟨by rw [HE.out]; rfl, HC2.out⟩
  cases x3
  · go_wp2
    go_ret
    exact ⟨by rw [HE.out]; rfl, HC2.out⟩
  cases x4
  · go_wp2
    go_ret
    exact ⟨by rw [HE.out]; rfl, HC2.out⟩
  cases x5
  · go_wp2
    go_ret
    exact ⟨by rw [HE.out]; rfl, HC2.out⟩
  cases x6
  all_goals
    go_wp2
    go_ret
    exact ⟨by rw [HE.out]; rfl, HC2.out⟩

/-- How many are wanted. -/
def wantAt (since now want have_ mean waiting busy : Int) : Int := if 0 < want then want else if (have_ == 0 && waiting == 0) || mayGo since now mean waiting busy then 0 else 1

set_option maxHeartbeats 4000000 in
theorem zero_want (hm : Said.may) (bu ini li rd : Int) (ok : Ok bu ini li rd) (since now want have_ mean waiting busy : Int) (w : World) (n0 : 0 ≤ now) (n1 : now ≤ 1099511627776) (s0 : -1 ≤ since) (s1 : since ≤ 1099511627776) :
    Calls Tryz.prog 65 #[.agg (ca bu ini li rd), .agg #[.int .i64 since], .int .i64 now, .int .i64 want, .int .i64 have_, .int .i64 mean, .int .i64 waiting, .int .i64 busy] w fun e w' => e = .returned (.int .i64 (wantAt since now want have_ mean waiting busy)) ∧ Chg No w w' := by
  have HM := Lib.hid fun w => zero_may hm bu ini li rd ok since now mean waiting busy w n0 n1 s0 s1
  clear hm ok
  obtain ⟨x1, h1⟩ : ∃ x, decide (0 < want) = x := ⟨_, rfl⟩
  obtain ⟨x2, h2⟩ : ∃ x, (have_ == 0) = x := ⟨_, rfl⟩
  obtain ⟨x3, h3⟩ : ∃ x, (waiting == 0) = x := ⟨_, rfl⟩
  have HE : Hid (wantAt since now want have_ mean waiting busy = if x1 then want else if (x2 && x3) || mayGo since now mean waiting busy then 0 else 1) := by
    show _ = _
    unfold wantAt
    rw [← h1, h2, h3]
    simp
  have hr0 : rowOf ((w.alloc (.cells (ca bu ini li rd) 24)).alloc (.cells #[.int .i64 since] 60)) w.heap.size 0 20 = some (.agg (ca bu ini li rd)) := rowOf_blk ((Blk.new w (ca bu ini li rd) 24).alloc _)
  generalize mayGo since now mean waiting busy = g at *
  have HC : Hid (Chg No w ((w.alloc (.cells (ca bu ini li rd) 24)).alloc (.cells #[.int .i64 since] 60))) := ((Chg.refl No w).alloc _).alloc _
  cases x1
  · cases x2 <;> cases x3
    case true.true =>
      go_enter Tryz.func65, Tryz.ntmps65
      go_wp2
      go_ret
      exact ⟨by rw [HE.out]; rfl, HC.out⟩
    all_goals
      cases g
      all_goals
        go_enter Tryz.func65, Tryz.ntmps65
        go_wp2_with fail
        refine (HM.out _).mono ?_
        rintro e w1 ⟨rfl, hc⟩
        have HC2 := Lib.hid (HC.out.trans hc)
        clear hc
        go_wp2
        go_ret
        exact ⟨by rw [HE.out]; rfl, HC2.out⟩
  · go_enter Tryz.func65, Tryz.ntmps65
    go_wp2
    go_ret
    exact ⟨by rw [HE.out]; rfl, HC.out⟩

set_option maxHeartbeats 1000000 in
theorem there_burst (n : Int) (w : World) (n0 : 0 ≤ n) (n1 : n ≤ 1000) : Calls Tryz.prog 48 #[.iface 3 (.int .i64 n)] w fun e w' => e = .returned (.int .i64 n) ∧ w = w' := by
  go_enter Tryz.func48, Tryz.ntmps48
  go_wp2
  all_goals
    go_ret
    exact ⟨ret_int (by omega), rfl⟩

/-- How much more there is room for. -/
def excess (bu li ready quick : Int) : Int := if bu == -1000 then -1000 else ready * li * 1000 - quick - bu

end Go.Proofs.YtdgphoemjeakaaaGreatDoor.P

/-! Package burst: what its functions give. -/
namespace Go.Proofs.YtdgphoemjeakaaaGreatDoor.P
open Go.RowKit Go.Proofs.YtdgphoemjeakaaaGreatDoor.K
set_option maxRecDepth 100000

set_option maxHeartbeats 4000000 in
theorem excess_any (hm : Said.may) (bu ini li rd : Int) (ok : Ok bu ini li rd) (ready quick : Int) (w : World) (r0 : 0 ≤ ready) (r1 : ready ≤ 1000) (q0 : 0 ≤ quick) (q1 : quick ≤ 1152921504606846976) : Calls Tryz.prog 25 #[.agg (ca bu ini li rd), .int .i64 ready, .int .i64 quick] w fun e w' => e = .returned (.int .i64 (excess bu li ready quick)) ∧ Chg No w w' := by
  have HM := Lib.hid (hm bu ini li rd ok)
  obtain ⟨hbu, _, ⟨l0, l1⟩, _⟩ := ok
  clear hm
  have HT := Lib.hid fun w => there_burst ready w r0 r1
  obtain ⟨m, hm⟩ : ∃ m, ready * li = m := ⟨_, rfl⟩
  have m0 : 0 ≤ m := by rw [← hm]; exact Int.mul_nonneg r0 (by omega)
  have m1 : m ≤ 1000000 := by
    rw [← hm]
    have h1 : ready * li ≤ 1000 * li := Int.mul_le_mul_of_nonneg_right r1 (by omega)
    omega
  have w1' : IntKind.i64.wrap (ready * li) = m := by rw [hm, IntKind.wrap_i64]; omega
  have HE : Hid (excess bu li ready quick = if bu == -1000 then -1000 else m * 1000 - quick - bu) := by show _ = _; unfold excess; rw [hm]
  clear hm
  have HS1 := Lib.hid fun w => sub_any (m * 1000) quick w (by omega) (by omega) (by omega) (by omega)
  go_enter Tryz.func25, Tryz.ntmps25
  go_wp2_with fail
  refine (HM.out _).mono ?_
  rintro e w1 ⟨rfl, hc⟩
  have hB := (Blk.new w (ca bu ini li rd) 24).kept hc
  have HB := Lib.hid hB
  have c13 : w1.cell? ⟨w.heap.size, 13, none⟩ = some (.int .i64 bu) := cell_ca hB 13
  have c14 : w1.cell? ⟨w.heap.size, 14, none⟩ = some (.int .i64 li) := cell_ca hB 14
  have HC := Lib.hid (((Chg.refl No w).alloc _).trans hc)
  clear hB hc
  rcases hbu with rfl | ⟨b0, b1⟩
  · go_wp2
    go_ret
    exact ⟨by rw [HE.out]; rfl, HC.out⟩
  · have kb : (bu == -1000) = false := beq_eq_false_iff_ne.2 (by omega)
    rw [kb] at HE
    have HS2 := Lib.hid fun w => sub_any (m * 1000 - quick) bu w (by omega) (by omega) (by omega) (by omega)
    go_wp2_with fail
    go_quiet (first | (go_at_call 48; with_reducible exact quiet_left (HT.out _)) | (go_at_call 47; with_reducible exact quiet_left (HS1.out _)))
    go_wp2_with (go_at_call 47; refine (HS2.out _).mono ?_; rintro e w' ⟨rfl, rfl⟩)
    go_ret
    exact ⟨by rw [HE.out]; rfl, HC.out.drewN _⟩

/-- Is the activator in the way? -/
def proxy (bu ready ex : Int) : Bool := bu == -1000 || (decide (ready < 1) || (decide (0 < bu) && decide (ex < 0)))

set_option maxHeartbeats 4000000 in
theorem proxy_any (hm : Said.may) (bu ini li rd : Int) (ok : Ok bu ini li rd) (ready ex : Int) (w : World) : Calls Tryz.prog 24 #[.agg (ca bu ini li rd), .int .i64 ready, .int .i64 ex] w fun e w' => e = .returned (.bool (proxy bu ready ex)) ∧ Chg No w w' := by
  have HM := Lib.hid (hm bu ini li rd ok)
  clear hm ok
  obtain ⟨x1, h1⟩ : ∃ x, (bu == -1000) = x := ⟨_, rfl⟩
  obtain ⟨x2, h2⟩ : ∃ x, decide (ready < 1) = x := ⟨_, rfl⟩
  obtain ⟨x3, h3⟩ : ∃ x, decide (0 < bu) = x := ⟨_, rfl⟩
  obtain ⟨x4, h4⟩ : ∃ x, decide (ex < 0) = x := ⟨_, rfl⟩
  have HE : Hid (proxy bu ready ex = (x1 || (x2 || (x3 && x4)))) := by show _ = _; unfold proxy; rw [h1, h2, h3, h4]
  go_enter Tryz.func24, Tryz.ntmps24
  go_wp2_with fail
  refine (HM.out _).mono ?_
  rintro e w1 ⟨rfl, hc⟩
  have hB := (Blk.new w (ca bu ini li rd) 24).kept hc
  have c13 : w1.cell? ⟨w.heap.size, 13, none⟩ = some (.int .i64 bu) := cell_ca hB 13
  have HC := Lib.hid (((Chg.refl No w).alloc _).trans hc)
  clear hB hc
  cases x1 <;> cases x2 <;> cases x3 <;> cases x4
  all_goals
    go_wp2
    go_ret
    exact ⟨by rw [HE.out]; rfl, HC.out⟩

end Go.Proofs.YtdgphoemjeakaaaGreatDoor.P
