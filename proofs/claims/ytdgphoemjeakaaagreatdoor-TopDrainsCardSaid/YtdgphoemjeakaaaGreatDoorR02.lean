/- Package ring: New, forget. Packages milli, conf (Per, Most), want, rate: what their functions give. Package ring: Put. Package ring: New, Sum, Mean, Over. -/
import Derived.Test.YtdgphoemjeakaaaGreatDoorR01
import Derived.Deep.RegionHeld3
import Derived.Handy
import Derived.BigQuiet
import Derived.Deep.MidRow
namespace Go.Proofs.YtdgphoemjeakaaaGreatDoor.R
open Go.RowKit Go.Shelf K
set_option maxRecDepth 100000
abbrev Bk := Int × Int
def bcells (b : Bk) : Array Value := #[.int .i64 b.1, .int .i64 b.2, .int .i64 1, .bool false]
def bref (x : Nat × Bk) : Value := .pointer (some ⟨x.1, 0, none⟩)
structure RingV (w : World) (S : Nat → Prop) (p : Nat) (v : Value) (es : List (Nat × Bk)) (window n newest : Int) : Prop where
  bd : ∀ k, S k → k < w.heap.size
  own : S p
  blk : Blk w p #[v, .int .i64 window, .int .i64 1, .int .i64 n, .int .i64 newest, .bool false] 180
  row : Own w S 20 1 v es.length (es.map fun x => Value.iface 245 (bref x))
  nodup : (es.map Prod.fst).Nodup
  bks : ∀ x, x ∈ es → S x.1 ∧ Blk w x.1 (bcells x.2) 244
def Ring (w : World) (S : Nat → Prop) (p : Nat) (bs : List Bk) (window n newest : Int) : Prop := ∃ v es, RingV w S p v es window n newest ∧ es.map Prod.snd = bs
section
variable {w w' : World} {S T : Nat → Prop} {p : Nat} {v : Value} {es : List (Nat × Bk)} {bs : List Bk} {window n newest : Int}
theorem RingV.chg (h : RingV w S p v es window n newest) (c : Chg T w w') (hd : ∀ k, S k → T k → False) : RingV w' S p v es window n newest :=
  ⟨fun k hk => Nat.lt_of_lt_of_le (h.bd k hk) c.size, h.own, h.blk.chg c (hd p h.own), h.row.chg c hd, h.nodup, fun x hx => ⟨(h.bks x hx).1, (h.bks x hx).2.chg c (hd x.1 (h.bks x hx).1)⟩⟩
theorem RingV.kept (h : RingV w S p v es window n newest) (c : Chg No w w') : RingV w' S p v es window n newest := h.chg c fun _ _ h => h
theorem RingV.mono (h : RingV w S p v es window n newest) (hs : ∀ k, k < w.heap.size → S k → T k) (hb : ∀ k, T k → k < w.heap.size) : RingV w T p v es window n newest :=
  ⟨hb, hs p h.blk.lt h.own, h.blk, h.row.mono hs, h.nodup, fun x hx => ⟨hs _ (h.bks x hx).2.lt (h.bks x hx).1, (h.bks x hx).2⟩⟩
theorem Ring.chg (h : Ring w S p bs window n newest) (c : Chg T w w') (hd : ∀ k, S k → T k → False) : Ring w' S p bs window n newest := by
  obtain ⟨v, es, h, he⟩ := h
  exact ⟨v, es, h.chg c hd, he⟩
theorem Ring.kept (h : Ring w S p bs window n newest) (c : Chg No w w') : Ring w' S p bs window n newest := h.chg c fun _ _ h => h
theorem Ring.mono (h : Ring w S p bs window n newest) (hs : ∀ k, k < w.heap.size → S k → T k) (hb : ∀ k, T k → k < w.heap.size) : Ring w T p bs window n newest := by
  obtain ⟨v, es, h, he⟩ := h
  exact ⟨v, es, h.mono hs hb, he⟩
theorem RingV.setNewest (h : RingV w S p v es window n newest) (t : Int) : RingV (w.setCell ⟨p, 4, none⟩ (.int .i64 t)) S p v es window n t :=
  ⟨by simpa [World.setCell] using h.bd, h.own, h.blk.set 4 _, h.row.other h.blk (by decide) _, h.nodup, fun x hx => ⟨(h.bks x hx).1, (h.bks x hx).2.other ((h.bks x hx).2.ne h.blk (by decide)) _⟩⟩
theorem RingV.filter (h : RingV w S p v es window n newest) {v' : Value} (q : Nat × Bk → Bool) (own : Own w' (Arr w S) 20 1 v' (G.kept q es).length ((G.kept q es).map fun x => Value.iface 245 (bref x))) (c : Chg (Arr w S) w w') : RingV (w'.setCell ⟨p, 0, none⟩ v') S p v' (G.kept q es) window n newest := by
  have hb := h.blk.chg c (h.blk.no_arr (by decide))
  refine ⟨fun k hk => by have := h.bd k hk; have := c.size; simp [World.setCell]; omega, h.own, hb.set 0 v', (own.mono fun _ _ h => h.1).other hb (by decide) v', ?_, fun x hx => ?_⟩
  · exact h.nodup.sublist ((List.filter_sublist).map _)
  · obtain ⟨h1, h2⟩ := h.bks x (List.mem_filter.1 hx).1
    exact ⟨h1, (h2.chg c (h2.no_arr (by decide))).other (h2.ne h.blk (by decide)) v'⟩
end
set_option maxHeartbeats 1000000 in
theorem old_pred (w : World) (b B p : Nat) (at_ newest n : Int) (hb : w.cell? ⟨b, 0, none⟩ = some (.int .i64 at_)) (hB : w.cell? ⟨B, 0, none⟩ = some (.pointer (some ⟨p, 0, none⟩))) (h3 : w.cell? ⟨p, 3, none⟩ = some (.int .i64 n)) (h4 : w.cell? ⟨p, 4, none⟩ = some (.int .i64 newest))
    (a0 : 0 ≤ at_) (a1 : at_ ≤ 1099511627776) (n0 : -1 ≤ newest) (n1 : newest ≤ 1099511627776) :
    Calls Tryz.prog 192 #[.iface 245 (.pointer (some ⟨b, 0, none⟩)), .pointer (some ⟨B, 0, none⟩)] w fun e w' => e = .returned (.bool (decide (n ≤ newest - at_))) ∧ Chg No w w' := by
  go_enter Tryz.func192, Tryz.ntmps192
  go_wp2
  go_quiet (fail)
  go_wp2
  go_ret
  exact ⟨rfl, (Chg.refl _ _).drewN _⟩
def old (newest n : Int) (x : Nat × Bk) : Bool := decide (n ≤ newest - x.2.1)
set_option maxHeartbeats 2000000 in
theorem forget_any (w : World) (S : Nat → Prop) (p : Nat) (v : Value) (es : List (Nat × Bk)) (window n newest : Int) (h : RingV w S p v es window n newest) (hn : es.length ≤ 1099511627776) (hat : ∀ x, x ∈ es → 0 ≤ x.2.1 ∧ x.2.1 ≤ 1099511627776) (n0 : -1 ≤ newest) (n1 : newest ≤ 1099511627776) :
    Calls Tryz.prog 160 #[.pointer (some ⟨p, 0, none⟩)] w fun e w' => e = .returned (.tuple #[]) ∧ (∃ v', RingV w' S p v' (G.kept (old newest n) es) window n newest) ∧ Chg S w w' := by
  have eg : ∀ args w, (callFunc 192 args).run Tryz.prog w = .ok (.enter 192 args) w := enters_of Tryz.func192 (by kernel_rfl) rfl
  have HD : Hid (∀ W, RingV W S p v es window n newest → Blk W w.heap.size #[.pointer (some ⟨p, 0, none⟩)] 128 → Calls Tryz.prog 140 #[v, .func (.func 192) #[] #[.pointer (some ⟨w.heap.size, 0, none⟩)]] W fun e w' => ∃ v', e = .returned v' ∧ Own w' (Arr W S) 20 1 v' (G.kept (old newest n) es).length ((G.kept (old newest n) es).map fun x => Value.iface 245 (bref x)) ∧ Chg (Arr W S) W w') := by
    intro W hW hB
    refine G.delete_func 245 bref (old newest n) es 192 #[.pointer (some ⟨w.heap.size, 0, none⟩)] eg W (Arr W S) v hW.row.arr hn fun W' x hx hc => ?_
    obtain ⟨h1, h2⟩ := hW.bks x hx
    have b1 := h2.chg hc (h2.no_arr (by decide))
    have b2 := hB.chg hc (hB.no_arr (by decide))
    have b3 := hW.blk.chg hc (hW.blk.no_arr (by decide))
    exact old_pred W' x.1 w.heap.size p x.2.1 newest n (Blk.cell b1 0) (Blk.cell b2 0) (Blk.cell b3 3) (Blk.cell b3 4) (hat x hx).1 (hat x hx).2 n0 n1
  have H1 := Lib.hid (h.kept ((Chg.refl No w).alloc (.cells #[.pointer (some ⟨p, 0, none⟩)] 128)))
  have hB1 : Blk (w.alloc (.cells #[.pointer (some ⟨p, 0, none⟩)] 128)) w.heap.size #[.pointer (some ⟨p, 0, none⟩)] 128 := Blk.new _ _ _
  have hne : w.heap.size ≠ p := by have := h.blk.lt; omega
  have HC : Hid (Chg S w (w.alloc (.cells #[.pointer (some ⟨p, 0, none⟩)] 128))) := (Chg.refl S w).alloc _
  have HS := Lib.hid h.own
  have c0 : (w.alloc (.cells #[.pointer (some ⟨p, 0, none⟩)] 128)).cell? ⟨p, 0, none⟩ = some v := Blk.cell H1.out.blk 0
  clear h hat
  go_enter Tryz.func160, Tryz.ntmps160
  go_wp2_with fail
  generalize w.alloc (.cells #[.pointer (some ⟨p, 0, none⟩)] 128) = w1 at *
  generalize w.heap.size = B at *
  have cB : w1.cell? ⟨B, 0, none⟩ = some (.pointer (some ⟨p, 0, none⟩)) := Blk.cell hB1 0
  have HB1 := Lib.hid hB1
  clear hB1
  obtain ⟨va, cap, hv⟩ := H1.out.row.sl
  subst hv
  have HD1 := Lib.hid (H1.out.kept (Chg.refl No w1).drew)
  have HB2 : Hid (Blk w1.drew B #[.pointer (some ⟨p, 0, none⟩)] 128) := HB1.out
  go_region_with (go_at_call 140; refine (HD.out _ HD1.out HB2.out).mono ?_; rintro e w2 ⟨v2, rfl, ho, hc⟩; have bp := HD1.out.blk.chg hc (HD1.out.blk.no_arr (by decide)); have bB := HB2.out.chg hc (HB2.out.no_arr (by decide)); have cB2 : w2.cell? ⟨B, 0, none⟩ = some (.pointer (some ⟨p, 0, none⟩)) := Blk.cell bB 0; have c02 : w2.cell? ⟨p, 0, none⟩ = some (.slice va es.length cap) := Blk.cell bp 0; have f02 := Blk.free bp 0; obtain ⟨va2, cap2, hv2⟩ := ho.sl; subst hv2; have HO := Lib.hid ho; have HC2 := Lib.hid hc; clear ho hc bp bB)
  all_goals
    go_wp2
    go_end0
    exact ⟨rfl, ⟨_, HD1.out.filter _ HO.out HC2.out⟩, ((HC.out.drew).trans (HC2.out.mono fun _ _ h => h.1)).set (a := ⟨p, 0, none⟩) (fun _ => HS.out) _⟩
end Go.Proofs.YtdgphoemjeakaaaGreatDoor.R
namespace Go.Proofs.YtdgphoemjeakaaaGreatDoor.P
open Go.RowKit K
set_option maxRecDepth 100000
def ca (bu ini li rd : Int) : Array Value := #[.int .i64 10000, .int .i64 700, .int .i64 60, .int .i64 6, .int .i64 1, .int .i64 2000, .int .i64 10000, .int .i64 2000, .int .i64 0, .int .i64 0, .int .i64 ini, .int .i64 30, .int .i64 0, .int .i64 bu, .int .i64 li, .int .i64 100, .int .i64 60, .int .i64 rd, .int .i64 0, .int .i64 0]
@[go_sem] theorem ca_0 (bu ini li rd : Int) : (ca bu ini li rd)[0]? = some (.int .i64 10000) := rfl
@[go_sem] theorem ca_1 (bu ini li rd : Int) : (ca bu ini li rd)[1]? = some (.int .i64 700) := rfl
@[go_sem] theorem ca_2 (bu ini li rd : Int) : (ca bu ini li rd)[2]? = some (.int .i64 60) := rfl
@[go_sem] theorem ca_3 (bu ini li rd : Int) : (ca bu ini li rd)[3]? = some (.int .i64 6) := rfl
@[go_sem] theorem ca_4 (bu ini li rd : Int) : (ca bu ini li rd)[4]? = some (.int .i64 1) := rfl
@[go_sem] theorem ca_5 (bu ini li rd : Int) : (ca bu ini li rd)[5]? = some (.int .i64 2000) := rfl
@[go_sem] theorem ca_6 (bu ini li rd : Int) : (ca bu ini li rd)[6]? = some (.int .i64 10000) := rfl
@[go_sem] theorem ca_7 (bu ini li rd : Int) : (ca bu ini li rd)[7]? = some (.int .i64 2000) := rfl
@[go_sem] theorem ca_8 (bu ini li rd : Int) : (ca bu ini li rd)[8]? = some (.int .i64 0) := rfl
@[go_sem] theorem ca_9 (bu ini li rd : Int) : (ca bu ini li rd)[9]? = some (.int .i64 0) := rfl
@[go_sem] theorem ca_10 (bu ini li rd : Int) : (ca bu ini li rd)[10]? = some (.int .i64 ini) := rfl
@[go_sem] theorem ca_11 (bu ini li rd : Int) : (ca bu ini li rd)[11]? = some (.int .i64 30) := rfl
@[go_sem] theorem ca_12 (bu ini li rd : Int) : (ca bu ini li rd)[12]? = some (.int .i64 0) := rfl
@[go_sem] theorem ca_13 (bu ini li rd : Int) : (ca bu ini li rd)[13]? = some (.int .i64 bu) := rfl
@[go_sem] theorem ca_14 (bu ini li rd : Int) : (ca bu ini li rd)[14]? = some (.int .i64 li) := rfl
@[go_sem] theorem ca_15 (bu ini li rd : Int) : (ca bu ini li rd)[15]? = some (.int .i64 100) := rfl
@[go_sem] theorem ca_16 (bu ini li rd : Int) : (ca bu ini li rd)[16]? = some (.int .i64 60) := rfl
@[go_sem] theorem ca_17 (bu ini li rd : Int) : (ca bu ini li rd)[17]? = some (.int .i64 rd) := rfl
@[go_sem] theorem ca_18 (bu ini li rd : Int) : (ca bu ini li rd)[18]? = some (.int .i64 0) := rfl
@[go_sem] theorem ca_19 (bu ini li rd : Int) : (ca bu ini li rd)[19]? = some (.int .i64 0) := rfl
theorem ca_size (bu ini li rd : Int) : (ca bu ini li rd).size = 20 := rfl
structure Ok (bu ini li rd : Int) : Prop where
  bu : bu = -1000 ∨ (0 ≤ bu ∧ bu ≤ 100000000)
  ini : 0 ≤ ini ∧ ini ≤ 100
  li : 1 ≤ li ∧ li ≤ 1000
  rd : 0 ≤ rd ∧ rd ≤ 100
def Said.may : Prop := ∀ bu ini li rd, Ok bu ini li rd → ∀ w, Calls Tryz.prog 16 #[.agg (ca bu ini li rd)] w fun e w' => e = .returned (.bool true) ∧ Chg No w w'
noncomputable def rowOf (w : World) (b o n : Nat) : Option Value := if (List.range n).all (fun j => (w.cell? ⟨b, o + j, none⟩).isSome) then some (.agg ((List.range n).map fun j => (w.cell? ⟨b, o + j, none⟩).getD undef).toArray) else none
theorem rowOf_of {w : World} {b o : Nat} {cs : Array Value} (h : ∀ j, j < cs.size → w.cell? ⟨b, o + j, none⟩ = cs[j]?) : rowOf w b o cs.size = some (.agg cs) := by
  unfold rowOf
  rw [if_pos (by rw [List.all_eq_true]; intro j hj; rw [List.mem_range] at hj; rw [h j hj]; simp [hj])]
  congr 2
  apply Array.ext_getElem?
  intro j
  by_cases hj : j < cs.size
  · simp [hj, h j hj]
  · simp [hj]
theorem rowOf_blk {w : World} {b : Nat} {cs : Array Value} {t : TypeId} (h : Blk w b cs t) : rowOf w b 0 cs.size = some (.agg cs) := rowOf_of fun j _ => by rw [Nat.zero_add]; exact h.cell j
@[go_sem] theorem rowOf_drew (w : World) (b o n : Nat) : rowOf w.drew b o n = rowOf w b o n := rfl
@[go_sem] theorem rowOf_drewN (w : World) (b o n k : Nat) : rowOf (w.drewN k) b o n = rowOf w b o n := rfl
theorem rowOf_same {w w' : World} {b : Nat} (o n : Nat) (h : w'.heap[b]? = w.heap[b]?) : rowOf w' b o n = rowOf w b o n := by
  have e : ∀ j, w'.cell? ⟨b, o + j, none⟩ = w.cell? ⟨b, o + j, none⟩ := fun j => World.cell?_of_block (w := w) (w' := w') (a := ⟨b, o + j, none⟩) h
  unfold rowOf
  simp only [e]
@[go_sem] theorem rowOf_alloc (w : World) (x : Obj) (b o n : Nat) (h : b < w.heap.size) : rowOf (w.alloc x) b o n = rowOf w b o n := rowOf_same o n (Below.heap_alloc w x b h)
@[go_sem] theorem rowOf_set (w : World) (a : Addr) (v : Value) (b o n : Nat) (h : ¬ b = a.block) : rowOf (w.setCell a v) b o n = rowOf w b o n := rowOf_same o n (Below.heap_setCell w a v b h)
@[go_sem] theorem rowOf_new (w : World) (bu ini li rd : Int) : rowOf (w.alloc (.cells (ca bu ini li rd) 24)) w.heap.size 0 20 = some (.agg (ca bu ini li rd)) := rowOf_blk (Blk.new w (ca bu ini li rd) 24)
theorem load24 {w : World} {b o : Nat} (h : (rowOf w b o 20).isSome = true) : (Instr.loadAt 24 (.pointer (some ⟨b, o, none⟩))).run Tryz.prog w = .ok ((rowOf w b o 20).getD undef) w := by
  have hall : (List.range 20).all (fun j => (w.cell? ⟨b, o + j, none⟩).isSome) = true := by
    unfold rowOf at h
    split at h
    · assumption
    · cases h
  unfold rowOf
  rw [if_pos hall]
  have hc : w.rangeAt b o ((List.range 20).map fun j => (w.cell? ⟨b, o + j, none⟩).getD undef) := by
    intro j v hv
    rw [List.getElem?_map] at hv
    by_cases hj : j < 20
    · rw [List.getElem?_range hj] at hv
      have := (List.all_eq_true.1 hall) j (List.mem_range.2 hj)
      obtain ⟨u, hu⟩ := Option.isSome_iff_exists.1 this
      simp only [Option.map_some, hu, Option.getD_some] at hv
      rw [hu]
      exact hv
    · rw [List.getElem?_eq_none (by simpa using hj)] at hv
      cases hv
  exact run_loadAt_mid w b o 24 _ _ hc Tryz.underlying24 rfl (by kernel_rfl)
noncomputable def ld24 (v : Value) (w : World) : Result Next := match v with
  | .pointer (some ⟨b, o, none⟩) => if (rowOf w b o 20).isSome then .ok (.value ((rowOf w b o 20).getD undef)) w else (do pure (.value (← Instr.loadAt 24 v)) : Sem Next).run Tryz.prog w
  | _ => (do pure (.value (← Instr.loadAt 24 v)) : Sem Next).run Tryz.prog w
@[go_sem ↓] theorem exec24 (ρ : Operand → Value) (dst : Option Tmp) (x : Operand) (ty : TypeId) (pos : String) (after : Array Edge) (gd : Option (Nat × Bool)) (w : World) : (execOp ρ { dst := dst, op := .load 24 x, type := ty, pos := pos, after := after, guard := gd }).run Tryz.prog w = ld24 (ρ x) w := by
  show (do pure (.value (← Instr.loadAt 24 (ρ x))) : Sem Next).run Tryz.prog w = _
  unfold ld24
  split
  · rename_i b o h
    split
    · rename_i hs
      rw [h, Sem.run_bind, load24 hs]
      rfl
    · rfl
  · rfl
@[go_sem] theorem ld24_ok {w : World} {b o : Nat} (h : (rowOf w b o 20).isSome = true) : ld24 (.pointer (some ⟨b, o, none⟩)) w = .ok (.value ((rowOf w b o 20).getD undef)) w := by
  unfold ld24
  simp [h]
theorem ret_int {k : IntKind} {a b : Int} (h : a = b) : Ending.returned (.int k a) = .returned (.int k b) := by rw [h]
set_option maxHeartbeats 1000000 in
theorem add_nn (a b : Int) (w : World) (a0 : 0 ≤ a) (b0 : 0 ≤ b) (h : a + b ≤ 4611686018427387904) : Calls Tryz.prog 93 #[.int .i64 a, .int .i64 b] w fun e w' => e = .returned (.tuple #[.int .i64 (a + b), .int .i64 0]) ∧ w = w' := by
  have k2 : decide (b < 0) = false := decide_eq_false (by omega)
  by_cases hb : 0 < b
  · have k1 : decide (0 < b) = true := decide_eq_true hb
    have k3 : decide (9223372036854775807 - b < a) = false := decide_eq_false (by omega)
    go_enter Tryz.func93, Tryz.ntmps93
    go_wp2
    go_ret2
    exact ⟨rfl, rfl⟩
  · have k1 : decide (0 < b) = false := decide_eq_false (by omega)
    go_enter Tryz.func93, Tryz.ntmps93
    go_wp2
    go_ret2
    exact ⟨rfl, rfl⟩
set_option maxHeartbeats 1000000 in
theorem sub_any (a b : Int) (w : World) (a0 : -2305843009213693952 ≤ a) (a1 : a ≤ 2305843009213693952) (b0 : -2305843009213693952 ≤ b) (b1 : b ≤ 2305843009213693952) : Calls Tryz.prog 47 #[.int .i64 a, .int .i64 b] w fun e w' => e = .returned (.tuple #[.int .i64 (a - b), .int .i64 0]) ∧ w = w' := by
  by_cases hb : b < 0
  · have k1 : decide (b < 0) = true := decide_eq_true hb
    have k2 : decide (0 < b) = false := decide_eq_false (by omega)
    have k3 : decide (9223372036854775807 + b < a) = false := decide_eq_false (by omega)
    go_enter Tryz.func47, Tryz.ntmps47
    go_wp2
    go_ret2
    exact ⟨rfl, rfl⟩
  · have k1 : decide (b < 0) = false := decide_eq_false hb
    by_cases hb2 : 0 < b
    · have k2 : decide (0 < b) = true := decide_eq_true hb2
      have k3 : decide (a < -9223372036854775808 + b) = false := decide_eq_false (by omega)
      go_enter Tryz.func47, Tryz.ntmps47
      go_wp2
      go_ret2
      exact ⟨rfl, rfl⟩
    · have k2 : decide (0 < b) = false := decide_eq_false hb2
      go_enter Tryz.func47, Tryz.ntmps47
      go_wp2
      go_ret2
      exact ⟨rfl, rfl⟩
set_option maxHeartbeats 1000000 in
theorem half_nn (a b : Int) (w : World) (a0 : 0 ≤ a) (a1 : a ≤ 4611686018427387904) (b0 : 0 < b) (b1 : b ≤ 4611686018427387904) : Calls Tryz.prog 164 #[.int .i64 a, .int .i64 b] w fun e w' => e = .returned (.tuple #[.int .i64 (a / b), .int .i64 0]) ∧ w = w' := by
  have k1 : (b == 0) = false := beq_eq_false_iff_ne.2 (by omega)
  have k2 : (a == -9223372036854775808) = false := beq_eq_false_iff_ne.2 (by omega)
  have k4 : ¬ b = 0 := by omega
  have q1 : IntKind.i64.wrap (a.tdiv b) = a / b := by
    rw [Int.tdiv_eq_ediv_of_nonneg a0, IntKind.wrap_i64]
    have := Int.ediv_nonneg (a := a) (b := b) a0 (by omega)
    have := Int.ediv_le_self (a := a) b a0
    omega
  go_enter Tryz.func164, Tryz.ntmps164
  go_wp2
  go_ret2
  exact ⟨rfl, rfl⟩
def up (a b : Int) : Int := a / b + if a % b = 0 then 0 else 1
set_option maxHeartbeats 1000000 in
theorem up_nn (a b : Int) (w : World) (a0 : 0 ≤ a) (a1 : a ≤ 4611686018427387904) (b0 : 0 < b) (b1 : b ≤ 4611686018427387904) : Calls Tryz.prog 134 #[.int .i64 a, .int .i64 b] w fun e w' => e = .returned (.tuple #[.int .i64 (up a b), .int .i64 0]) ∧ w = w' := by
  have H := Lib.hid fun w => half_nn a b w a0 a1 b0 b1
  have k1 : (b == 0) = false := beq_eq_false_iff_ne.2 (by omega)
  have k4 : ¬ b = 0 := by omega
  have k5 : decide (a < 0) = false := decide_eq_false (by omega)
  have k6 : decide (b < 0) = false := decide_eq_false (by omega)
  have q1 : IntKind.i64.wrap (a.tmod b) = a % b := by
    rw [Int.tmod_eq_emod_of_nonneg a0, IntKind.wrap_i64]
    have := Int.emod_nonneg a k4
    have := Int.emod_lt_of_pos a b0
    omega
  have d0 := Int.ediv_nonneg (a := a) (b := b) a0 (by omega)
  have d1 := Int.ediv_le_self (a := a) b a0
  by_cases hm : a % b = 0
  · have E : Hid (up a b = a / b) := by show _ = _; unfold up; rw [if_pos hm]; omega
    have k7 : (a % b != 0) = false := by rw [hm]; rfl
    generalize a / b = q at *
    clear hm
    go_enter Tryz.func134, Tryz.ntmps134
    go_wp2_with (go_at_call 164; refine (H.out _).mono ?_; rintro e w' ⟨rfl, rfl⟩)
    go_ret2
    exact ⟨by rw [E.out]; rfl, rfl⟩
  · have E : Hid (up a b = a / b + 1) := by show _ = _; unfold up; rw [if_neg hm]
    have k7 : (a % b != 0) = true := by rw [bne_iff_ne]; exact hm
    generalize a / b = q at *
    clear hm
    go_enter Tryz.func134, Tryz.ntmps134
    go_wp2_with (go_at_call 164; refine (H.out _).mono ?_; rintro e w' ⟨rfl, rfl⟩)
    go_ret2
    exact ⟨by rw [E.out]; rfl, rfl⟩
set_option maxHeartbeats 1000000 in
theorem down_nn (a b : Int) (w : World) (a0 : 0 ≤ a) (a1 : a ≤ 4611686018427387904) (b0 : 0 < b) (b1 : b ≤ 4611686018427387904) : Calls Tryz.prog 167 #[.int .i64 a, .int .i64 b] w fun e w' => e = .returned (.tuple #[.int .i64 (a / b), .int .i64 0]) ∧ w = w' := by
  have H := Lib.hid fun w => half_nn a b w a0 a1 b0 b1
  have k1 : (b == 0) = false := beq_eq_false_iff_ne.2 (by omega)
  have k4 : ¬ b = 0 := by omega
  have k5 : decide (a < 0) = false := decide_eq_false (by omega)
  have k6 : decide (b < 0) = false := decide_eq_false (by omega)
  have q1 : IntKind.i64.wrap (a.tmod b) = a % b := by
    rw [Int.tmod_eq_emod_of_nonneg a0, IntKind.wrap_i64]
    have := Int.emod_nonneg a k4
    have := Int.emod_lt_of_pos a b0
    omega
  generalize a / b = q at *
  cases k7 : a % b != 0
  all_goals
    go_enter Tryz.func167, Tryz.ntmps167
    go_wp2_with (go_at_call 164; refine (H.out _).mono ?_; rintro e w' ⟨rfl, rfl⟩)
    go_ret2
    exact ⟨rfl, rfl⟩
set_option maxHeartbeats 1000000 in
theorem clamp_lo (a lo hi : Int) (w : World) (h0 : lo ≤ hi) : Calls Tryz.prog 166 #[.int .i64 a, .int .i64 lo, .int .i64 hi] w fun e w' => e = .returned (.int .i64 (max lo (min a hi))) ∧ w = w' := by
  by_cases h1 : hi < a
  · have k1 : decide (hi < a) = true := decide_eq_true h1
    go_enter Tryz.func166, Tryz.ntmps166
    go_wp2
    go_ret
    exact ⟨ret_int (by omega), rfl⟩
  · have k1 : decide (hi < a) = false := decide_eq_false h1
    by_cases h2 : a < lo
    · have k2 : decide (a < lo) = true := decide_eq_true h2
      go_enter Tryz.func166, Tryz.ntmps166
      go_wp2
      go_ret
      exact ⟨ret_int (by omega), rfl⟩
    · have k2 : decide (a < lo) = false := decide_eq_false h2
      go_enter Tryz.func166, Tryz.ntmps166
      go_wp2
      go_ret
      exact ⟨ret_int (by omega), rfl⟩
set_option maxHeartbeats 4000000 in
theorem mul64_per (w : World) : Calls Tryz.prog 132 #[.int .u64 10000, .int .u64 700] w fun e w' => e = .returned (.tuple #[.int .u64 0, .int .u64 7000000]) ∧ w = w' := by
  go_enter Tryz.func132, Tryz.ntmps132
  go_wp2
  go_ret2
  exact ⟨by kernel_rfl, rfl⟩
set_option maxHeartbeats 4000000 in
theorem div64_per (w : World) : Calls Tryz.prog 195 #[.int .u64 0, .int .u64 7000000, .int .u64 1000] w fun e w' => e = .returned (.tuple #[.int .u64 7000, .int .u64 0]) ∧ Chg No w w' := by
  go_enter Tryz.func195, Tryz.ntmps195
  go_wp2
  go_quiet (fail)
  go_wp2
  go_ret2
  exact ⟨rfl, (Chg.refl _ _).drewN _⟩
set_option maxHeartbeats 4000000 in
theorem far_per (n : Int) (w : World) (h0 : 0 ≤ n) (h1 : n ≤ 1000000) : Calls Tryz.prog 194 #[.int .i64 n] w fun e w' => e = .returned (.int .u64 n) ∧ w = w' := by
  have k1 : decide (n < 0) = false := decide_eq_false (by omega)
  go_enter Tryz.func194, Tryz.ntmps194
  go_wp2
  go_ret
  exact ⟨rfl, rfl⟩
set_option maxHeartbeats 4000000 in
theorem mul_per (w : World) : Calls Tryz.prog 165 #[.int .i64 10000, .int .i64 700] w fun e w' => e = .returned (.tuple #[.int .i64 7000, .int .i64 0]) ∧ Chg No w w' := by
  go_enter Tryz.func165, Tryz.ntmps165
  go_wp2_with fail
  refine (far_per 10000 _ (by omega) (by omega)).mono ?_
  rintro e w' ⟨rfl, rfl⟩
  go_wp2_with fail
  refine (far_per 700 _ (by omega) (by omega)).mono ?_
  rintro e w' ⟨rfl, rfl⟩
  go_wp2_with fail
  refine (mul64_per _).mono ?_
  rintro e w' ⟨rfl, rfl⟩
  go_wp2_with fail
  refine (div64_per _).mono ?_
  rintro e w' ⟨rfl, hc⟩
  go_wp2
  go_ret2
  exact ⟨rfl, hc⟩
set_option maxHeartbeats 4000000 in
theorem per_any (bu ini li rd : Int) (w : World) : Calls Tryz.prog 135 #[.agg (ca bu ini li rd)] w fun e w' => e = .returned (.int .i64 7000) ∧ Chg No w w' := by
  go_enter Tryz.func135, Tryz.ntmps135
  go_wp2_with fail
  refine (mul_per _).mono ?_
  rintro e w' ⟨rfl, hc⟩
  go_wp2
  go_ret
  exact ⟨rfl, ((Chg.refl No w).alloc _).trans hc⟩
set_option maxHeartbeats 4000000 in
theorem most_any (bu ini li rd : Int) (w : World) : Calls Tryz.prog 66 #[.agg (ca bu ini li rd)] w fun e w' => e = .returned (.int .i64 100) ∧ Chg No w w' := by
  go_enter Tryz.func66, Tryz.ntmps66
  go_wp2
  go_ret
  exact ⟨rfl, (Chg.refl No w).alloc _⟩
set_option maxHeartbeats 1000000 in
theorem number_long (n lo : Int) (w : World) (h0 : lo ≤ 1000000) : Calls Tryz.prog 136 #[.iface 2 (.int .i64 n), .int .i64 lo] w fun e w' => e = .returned (.int .i64 (max lo (min n 1000000))) ∧ w = w' := by
  go_enter Tryz.func136, Tryz.ntmps136
  go_wp2_with (go_at_call 166; refine (clamp_lo n lo 1000000 _ h0).mono ?_; rintro e w' ⟨rfl, rfl⟩)
  go_ret
  exact ⟨rfl, rfl⟩
set_option maxHeartbeats 1000000 in
theorem number_int (n lo : Int) (w : World) (h0 : lo ≤ 1000000) : Calls Tryz.prog 136 #[.iface 3 (.int .i64 n), .int .i64 lo] w fun e w' => e = .returned (.int .i64 (max lo (min n 1000000))) ∧ w = w' := by
  go_enter Tryz.func136, Tryz.ntmps136
  go_wp2_with (go_at_call 166; refine (clamp_lo n lo 1000000 _ h0).mono ?_; rintro e w' ⟨rfl, rfl⟩)
  go_ret
  exact ⟨rfl, rfl⟩
def wantOf (mean : Int) : Int := min (up mean 7000) 1000000
theorem up_bd {a b : Int} (a0 : 0 ≤ a) (b0 : 0 < b) : 0 ≤ up a b ∧ up a b ≤ a + 1 := by
  have := Int.ediv_nonneg (a := a) (b := b) a0 (by omega)
  have := Int.ediv_le_self (a := a) b a0
  unfold up
  split <;> omega
end Go.Proofs.YtdgphoemjeakaaaGreatDoor.P
namespace Go.Proofs.YtdgphoemjeakaaaGreatDoor.R
open Go.RowKit Go.Shelf K
set_option maxRecDepth 100000
theorem chg_new {S : Nat → Prop} {w w' : World} (h : Chg S w w') {b j : Nat} (hb : w.heap.size ≤ b) (v : Value) : Chg S w (w'.setCell ⟨b, j, none⟩ v) := h.set (a := ⟨b, j, none⟩) (fun hlt => absurd hlt (by show ¬ b < _; omega)) v
theorem RingV.push {w1 wX w2 : World} {S : Nat → Prop} {p bn : Nat} {v v' : Value} {es : List (Nat × Bk)} {window n newest : Int} {b : Bk} (h : RingV w1 S p v es window n newest) (hX : Chg No w1 wX) (hB : Blk wX bn #[.int .i64 b.1, .int .i64 0, .int .i64 0, .bool false] 244) (hbn : w1.heap.size ≤ bn)
    (own : Own w2 (K.nx (Arr w1 S) wX w2) 20 1 v' (es.length + 1) ((es.map fun x => Value.iface 245 (bref x)) ++ [.iface 245 (.pointer (some ⟨bn, 0, none⟩))])) (c : Chg (Arr w1 S) wX w2) (s : Int) :
    RingV ((((w2.setCell ⟨p, 0, none⟩ v').setCell ⟨bn, 1, none⟩ (.int .i64 s)).setCell ⟨bn, 2, none⟩ (.int .i64 1)).setCell ⟨bn, 3, none⟩ (.bool false)) (K.nx S w1 ((((w2.setCell ⟨p, 0, none⟩ v').setCell ⟨bn, 1, none⟩ (.int .i64 s)).setCell ⟨bn, 2, none⟩ (.int .i64 1)).setCell ⟨bn, 3, none⟩ (.bool false))) p v' (es ++ [(bn, (b.1, s))]) window n newest := by
  have hp2 := (h.blk.kept hX).chg c (h.blk.no_arr (by decide))
  have hB2 := hB.chg c (fun hA => by have := h.bd bn hA.1; omega)
  have hsz : ((((w2.setCell ⟨p, 0, none⟩ v').setCell ⟨bn, 1, none⟩ (.int .i64 s)).setCell ⟨bn, 2, none⟩ (.int .i64 1)).setCell ⟨bn, 3, none⟩ (.bool false)).heap.size = w2.heap.size := by simp [World.setCell]
  have s1 := hX.size
  have s2 := c.size
  have hne : p ≠ bn := hp2.ne hB2 (by decide)
  have hBa := hB2.other (p := p) (j := 0) hne.symm v'
  have hpa := hp2.set 0 v'
  have hB3 := ((hBa.set 1 (.int .i64 s)).set 2 (.int .i64 1)).set 3 (.bool false)
  have hb1 := hBa.set 1 (.int .i64 s)
  have hb2 := hb1.set 2 (.int .i64 1)
  refine ⟨fun k hk => hk.2, ⟨.inl h.own, by rw [hsz]; exact hp2.lt⟩, ((hpa.other hne _).other hne _).other hne _, ?_, ?_, fun x hx => ?_⟩
  · rw [List.length_append, List.map_append]
    refine Own.other (Own.other (Own.other (Own.other (own.mono fun k hk hS => ?_) hp2 (by decide) v') hBa (by decide) _) hb1 (by decide) _) hb2 (by decide) _
    exact ⟨hS.1.imp (fun h => h.1) (by omega), by rw [hsz]; exact hS.2⟩
  · rw [List.map_append, List.nodup_append]
    refine ⟨h.nodup, by simp, fun a ha b hb => ?_⟩
    obtain ⟨x, hx, rfl⟩ := List.mem_map.1 ha
    have hlt := h.bd _ (h.bks x hx).1
    simp at hb
    omega
  · rcases List.mem_append.1 hx with hx | hx
    · obtain ⟨h1, h2⟩ := h.bks x hx
      have h3 := (h2.kept hX).chg c (h2.no_arr (by decide))
      have hlt := h.bd _ h1
      have hnb : x.1 ≠ bn := by omega
      exact ⟨⟨.inl h1, by rw [hsz]; exact h3.lt⟩, (((h3.other (h3.ne hp2 (by decide)) _).other hnb _).other hnb _).other hnb _⟩
    · rw [List.mem_singleton.1 hx]
      exact ⟨⟨.inr hbn, by rw [hsz]; exact hB2.lt⟩, hB3⟩
set_option maxHeartbeats 1000000 in
theorem same_pred (w : World) (b B : Nat) (x t : Int) (hb : w.cell? ⟨b, 0, none⟩ = some (.int .i64 x)) (hB : w.cell? ⟨B, 0, none⟩ = some (.int .i64 t)) :
    Calls Tryz.prog 161 #[.iface 245 (.pointer (some ⟨b, 0, none⟩)), .pointer (some ⟨B, 0, none⟩)] w fun e w' => e = .returned (.bool (x == t)) ∧ Chg No w w' := by
  go_enter Tryz.func161, Tryz.ntmps161
  go_wp2
  go_quiet (fail)
  go_wp2
  go_ret
  exact ⟨rfl, (Chg.refl _ _).drewN _⟩
set_option maxHeartbeats 4000000 in
theorem put_any (w : World) (S : Nat → Prop) (p : Nat) (v : Value) (es : List (Nat × Bk)) (window n newest t val : Int) (h : RingV w S p v es window n newest) (hn : es.length + 1 ≤ 1099511627776) (hat : ∀ x, x ∈ es → 0 ≤ x.2.1 ∧ x.2.1 ≤ newest) (n0 : -1 ≤ newest) (t0 : newest < t) (t1 : t ≤ 1099511627776) (v0 : 0 ≤ val) (v1 : val ≤ 1125899906842624) (hw : 1 ≤ n) :
    Calls Tryz.prog 129 #[.pointer (some ⟨p, 0, none⟩), .int .i64 t, .int .i64 val] w fun e w' => e = .returned (.int .i64 0) ∧ Ring w' (K.nx S w w') p (((es.map Prod.snd).filter fun b => !decide (n ≤ t - b.1)) ++ [(t, val)]) window n t ∧ Chg S w w' := by
  have eg : ∀ args w, (callFunc 161 args).run Tryz.prog w = .ok (.enter 161 args) w := enters_of Tryz.func161 (by kernel_rfl) rfl
  obtain ⟨i0, hi, hz0, hz1, hz2⟩ := info_parts G.info20
  have k1 : decide (t < 0) = false := decide_eq_false (by omega)
  have k2 : decide (1099511627776 < t) = false := decide_eq_false (by omega)
  have k3 : decide (val < 0) = false := decide_eq_false (by omega)
  have c2 : w.cell? ⟨p, 2, none⟩ = some (.int .i64 1) := Blk.cell h.blk 2
  have c4 : w.cell? ⟨p, 4, none⟩ = some (.int .i64 newest) := Blk.cell h.blk 4
  have f4 := Blk.free h.blk 4
  have hp := h.blk.lt
  have H := Lib.hid h
  have HAT := Lib.hid hat
  clear h hat
  go_enter Tryz.func129, Tryz.ntmps129
  go_wp2
  have hB0 : Blk (w.alloc (.cells #[.int .i64 t] 2)) w.heap.size #[.int .i64 t] 2 := Blk.new w _ _
  have hR0 := H.out.kept ((Chg.refl No w).alloc (.cells #[.int .i64 t] 2))
  have HC0 : Hid (Chg S w (w.alloc (.cells #[.int .i64 t] 2))) := (Chg.refl S w).alloc _
  have hneA : w.heap.size ≠ p := by omega
  have HSZ : Hid (w.heap.size < (w.alloc (.cells #[.int .i64 t] 2)).heap.size) := by show _ < _; simp
  clear c2 c4 f4 hp
  have HBW : Hid (∃ B, B = w.heap.size) := ⟨_, rfl⟩
  have HNS : Hid (¬ S w.heap.size) := fun hS => by have := H.out.bd _ hS; omega
  generalize w.alloc (.cells #[.int .i64 t] 2) = wa at *
  generalize hBw : w.heap.size = B at *
  have HBw := Lib.hid hBw
  clear hBw
  have c4 : wa.cell? ⟨p, 4, none⟩ = some (.int .i64 newest) := Blk.cell hR0.blk 4
  have f4 := Blk.free hR0.blk 4
  have cA : wa.cell? ⟨B, 0, none⟩ = some (.int .i64 t) := Blk.cell hB0 0
  have HR0 := Lib.hid hR0
  have HB0 := Lib.hid hB0
  clear hR0 hB0
  go_region
  all_goals
    have HR1 := Lib.hid ((HR0.out.setNewest t).kept (Chg.refl No _).drew)
    have HB1 : Hid (Blk (wa.setCell ⟨p, 4, none⟩ (.int .i64 t)).drew B #[.int .i64 t] 2) := HB0.out.other hneA (.int .i64 t) (j := 4)
    have HC1 := Lib.hid ((HC0.out.set (a := ⟨p, 4, none⟩) (fun _ => H.out.own) (.int .i64 t)).drew)
    change Exit.then _ _ _ _ (wa.setCell ⟨p, 4, none⟩ (.int .i64 t)).drew
    generalize (wa.setCell ⟨p, 4, none⟩ (.int .i64 t)).drew = w1 at *
    clear c4 f4 cA HR0 HB0 HC0
    go_wp2_with fail
    refine (forget_any w1 S p v es window n t HR1.out (by omega) (fun x hx => by have := HAT.out x hx; omega) (by omega) t1).mono ?_
    rintro e w2 ⟨rfl, ⟨v2, hL⟩, hc⟩
    have HKL : Hid ((G.kept (old t n) es).length ≤ es.length) := List.length_filter_le _ _
    have HKE : Hid ((G.kept (old t n) es).map Prod.snd = (es.map Prod.snd).filter fun b => !decide (n ≤ t - b.1)) := by
      show _ = _
      rw [List.filter_map]
      rfl
    have HKA : Hid (∀ x, x ∈ G.kept (old t n) es → x.2.1 < t) := fun x hx => by have := HAT.out x (List.mem_filter.1 hx).1; omega
    generalize G.kept (old t n) es = ks at *
    have HC2 := Lib.hid (HC1.out.trans hc)
    have hB2 := HB1.out.chg hc HNS.out
    have c0 : w2.cell? ⟨p, 0, none⟩ = some v2 := Blk.cell hL.blk 0
    have c3 : w2.cell? ⟨p, 3, none⟩ = some (.int .i64 n) := Blk.cell hL.blk 3
    have c4 : w2.cell? ⟨p, 4, none⟩ = some (.int .i64 t) := Blk.cell hL.blk 4
    have cA : w2.cell? ⟨B, 0, none⟩ = some (.int .i64 t) := Blk.cell hB2 0
    have HL := Lib.hid hL
    have HB2 := Lib.hid hB2
    have kn : decide (n ≤ t - t) = false := decide_eq_false (by omega)
    have kn0 : decide (n ≤ 0) = false := decide_eq_false (by omega)
    clear hL hB2 hc HR1 HB1 HC1
    go_wp2
    go_quiet (fail)
    go_wp2_with fail
    have HX0 : Hid (Chg No w2 (w2.drewN nq)) := (Chg.refl No w2).drewN nq
    have HBX : Hid (∀ W, Chg No w2 W → W.cell? ⟨B, 0, none⟩ = some (.int .i64 t)) := fun W hW => Blk.cell (HB2.out.kept hW) 0
    have HI := Lib.hid (G.index_func (fun x : Nat × Bk => Value.iface 245 (bref x)) (fun x => x.2.1 == t) ks 161 #[.pointer (some ⟨B, 0, none⟩)] eg (w2.drewN nq) S v2 (HL.out.row.kept HX0.out) (by have := HKL.out; omega) (fun W x hx hc => same_pred W x.1 B x.2.1 t (Blk.cell ((HL.out.bks x hx).2.kept (HX0.out.trans hc)) 0) (HBX.out W (HX0.out.trans hc))))
    refine HI.out.mono ?_
    rintro e w3 ⟨r, rfl, hf, hc⟩
    rcases hf with ⟨rfl, _⟩ | ⟨k, x, hx, rfl, hp, _⟩
    · have hcx := HX0.out.trans hc
      have HL3 := Lib.hid (HL.out.kept hcx)
      have cA3 := HBX.out w3 hcx
      have c03 : w3.cell? ⟨p, 0, none⟩ = some v2 := Blk.cell HL3.out.blk 0
      have HC3 := Lib.hid (HC2.out.trans hcx.of_no)
      obtain ⟨va, cap, hv⟩ := HL3.out.row.sl
      subst hv
      have hkl := HKL.out
      have hpl : p < w3.heap.size := HL3.out.blk.lt
      have hBl : B < w3.heap.size := (HB2.out.kept hcx).lt
      have HA := Lib.hid HL3.out.row.arr
      clear hc hcx c0 c3 c4 cA HI HBX HX0 HL
      go_wp2_with fail
      go_region_law (refine step_app rfl (.tmp 71) (.tmp 76) 58 rfl (Arr w3 S) 20 i0 .nilIface 1 16 Tryz.underlying58 hi hz0 hz1 hz2 rfl _ _ _ (by simp [Act.eval]) (HA.out.kept ((((Chg.refl No w3).drew).alloc _).alloc _)) ⟨w3.heap.size + 1, 0, none⟩ 1 1 [.iface 245 (.pointer (some ⟨w3.heap.size, 0, none⟩))] (by simp [Act.eval]) (by decide) rfl (built_at (by simp)) (by simp [Value.oneCell']) (by simp only [maxLen]; omega) (by omega) ?_; intro g5 o5 c5 w5 ho5 hc5; have bp5 := (HL3.out.blk.kept (by first | exact (((Chg.refl No w3).alloc _).alloc _).drew | exact (((Chg.refl No w3).drew).alloc _).alloc _)).chg hc5 (HL3.out.blk.no_arr (by decide)); have bb5 := Blk.chg (w := (((w3.alloc (.cells #[.int .i64 t, .int .i64 0, .int .i64 0, .bool false] 244)).alloc (.cells #[.iface 245 (.pointer (some ⟨w3.heap.size, 0, none⟩))] 20)).drew)) ((Blk.new w3 #[.int .i64 t, .int .i64 0, .int .i64 0, .bool false] 244).alloc (.cells #[.iface 245 (.pointer (some ⟨w3.heap.size, 0, none⟩))] 20)) hc5 (fun hA => by have := HL3.out.bd _ hA.1; omega); have p05 : w5.cell? ⟨p, 0, none⟩ = some (.slice va ks.length cap) := Blk.cell bp5 0; have fp5 := Blk.free bp5 0; have HO5 := Lib.hid ho5; have HC5 := Lib.hid hc5; have HBB := Lib.hid bb5; have HBP := Lib.hid bp5; clear ho5 hc5 bb5 bp5)
      all_goals
        have hbn : w3.heap.size ≠ p := by omega
        have hX5 : Chg No w3 ((w3.alloc (.cells #[.int .i64 t, .int .i64 0, .int .i64 0, .bool false] 244)).alloc (.cells #[.iface 245 (.pointer (some ⟨w3.heap.size, 0, none⟩))] 20)).drew := (((Chg.refl No w3).alloc _).alloc _).drew
        have HPU := Lib.hid (HL3.out.push (b := (t, val)) hX5 ((Blk.new w3 #[.int .i64 t, .int .i64 0, .int .i64 0, .bool false] 244).alloc _) (Nat.le_refl _) HO5.out HC5.out val)
        have HC6 := Lib.hid ((((HC3.out.trans hX5.of_no).step HC5.out fun k _ h => h.1)).set (a := ⟨p, 0, none⟩) (fun _ => H.out.own) (.slice (some ⟨g5, o5, none⟩) (ks.length + 1) c5))
        have hB6 := HBB.out.other hbn (.slice (some ⟨g5, o5, none⟩) (ks.length + 1) c5) (j := 0)
        have hP6 := HBP.out.set 0 (.slice (some ⟨g5, o5, none⟩) (ks.length + 1) c5)
        have hO6 := HO5.out.other (j := 0) HBP.out (by decide) (.slice (some ⟨g5, o5, none⟩) (ks.length + 1) c5)
        have e6 : (w5.setCell ⟨p, 0, none⟩ (.slice (some ⟨g5, o5, none⟩) (ks.length + 1) c5)).cell? ⟨g5, o5 + ks.length, none⟩ = some (.iface 245 (.pointer (some ⟨w3.heap.size, 0, none⟩))) := by
          rw [hO6.cellAt ks.length (by omega), List.getElem?_append_right (by simp)]
          simp
        have HSW : Hid (w.heap.size ≤ w3.heap.size) := by have h1 := HC3.out.size; exact h1
        generalize hw6 : w5.setCell ⟨p, 0, none⟩ (.slice (some ⟨g5, o5, none⟩) (ks.length + 1) c5) = w6 at *
        generalize hbnv : w3.heap.size = bn at *
        have p06 : w6.cell? ⟨p, 0, none⟩ = some (.slice (some ⟨g5, o5, none⟩) (ks.length + 1) c5) := Blk.cell hP6 0
        have b16 : w6.cell? ⟨bn, 1, none⟩ = some (.int .i64 0) := Blk.cell hB6 1
        have b26 : w6.cell? ⟨bn, 2, none⟩ = some (.int .i64 0) := Blk.cell hB6 2
        have b36 : w6.cell? ⟨bn, 3, none⟩ = some (.bool false) := Blk.cell hB6 3
        have f16 := Blk.free hB6 1
        have f26 := Blk.free hB6 2
        have f36 := Blk.free hB6 3
        have HBN := Lib.hid hbnv
        clear hP6 hB6 hO6 hX5 hw6 hbnv c03 cA3
        go_wp2_with (go_at_call 93; refine (P.add_nn 0 val _ (by omega) v0 (by omega)).mono ?_; rintro e w' ⟨rfl, rfl⟩)
        go_region
        all_goals
          go_wp2
          go_ret
          have hle : w.heap.size ≤ bn := HSW.out
          refine ⟨rfl, ⟨_, _, (HPU.out.mono (T := K.nx S w _) (fun k _ hk => nx_no (by rw [HBN.out]; exact hle) hk) (fun k hk => hk.2)).kept (Chg.refl No _).drew, by rw [List.map_append, HKE.out]; rfl⟩, ?_⟩
          exact (chg_new (chg_new (chg_new HC6.out hle _) hle _) hle _).drew
    · exact absurd hp (by have := HKA.out x (List.mem_of_getElem? hx); simp; omega)
end Go.Proofs.YtdgphoemjeakaaaGreatDoor.R
namespace Go.Proofs.YtdgphoemjeakaaaGreatDoor.R
open Go.RowKit Go.Shelf K
set_option maxRecDepth 100000
def lies (n t : Int) (b : Bk) : Bool := !decide (t < b.1) && !decide (n ≤ t - b.1)
def sumB (n t : Int) (bs : List Bk) : Int := ((bs.filter (lies n t)).map Prod.snd).foldl (· + ·) 0
def numB (n t : Int) (bs : List Bk) : Int := (bs.filter (lies n t)).length
def meanB (n t : Int) (bs : List Bk) : Int := if numB n t bs = 0 then 0 else sumB n t bs / numB n t bs
theorem sumB_snoc (n t : Int) (bs : List Bk) (b : Bk) : sumB n t (bs ++ [b]) = sumB n t bs + if lies n t b then b.2 else 0 := by
  unfold sumB
  rw [List.filter_append, List.map_append, List.foldl_append]
  cases h : lies n t b <;> simp [h]
theorem numB_snoc (n t : Int) (bs : List Bk) (b : Bk) : numB n t (bs ++ [b]) = numB n t bs + if lies n t b then 1 else 0 := by
  unfold numB
  rw [List.filter_append, List.length_append]
  cases h : lies n t b <;> simp [h]
theorem sumB_bd (n t : Int) : ∀ (bs : List Bk), (∀ b, b ∈ bs → 0 ≤ b.2 ∧ b.2 ≤ 1125899906842624) → 0 ≤ sumB n t bs ∧ sumB n t bs ≤ bs.length * 1125899906842624 := by
  intro bs h
  have : ∀ (l : List Bk) (a : Int), (∀ b, b ∈ l → 0 ≤ b.2 ∧ b.2 ≤ 1125899906842624) → a ≤ (l.map Prod.snd).foldl (· + ·) a ∧ (l.map Prod.snd).foldl (· + ·) a ≤ a + l.length * 1125899906842624 := by
    intro l
    induction l with
    | nil => intro a _; simp
    | cons s l ih =>
      intro a h
      have h1 := h s (by simp)
      have h2 := ih (a + s.2) (fun x hx => h x (by simp [hx]))
      simp only [List.map_cons, List.foldl_cons, List.length_cons]
      omega
  have h2 := this (bs.filter (lies n t)) 0 (fun b hb => h b (List.mem_filter.1 hb).1)
  have h3 := List.length_filter_le (lies n t) bs
  unfold sumB
  omega
theorem numB_bd (n t : Int) (bs : List Bk) : 0 ≤ numB n t bs ∧ numB n t bs ≤ bs.length := by
  have h3 := List.length_filter_le (lies n t) bs
  unfold numB
  omega
theorem RingV.setOver {w : World} {S : Nat → Prop} {p : Nat} {v : Value} {es : List (Nat × Bk)} {window n newest : Int} (h : RingV w S p v es window n newest) : RingV (w.setCell ⟨p, 5, none⟩ (.bool false)) S p v es window n newest :=
  ⟨by simpa [World.setCell] using h.bd, h.own, h.blk.set 5 _, h.row.other h.blk (by decide) _, h.nodup, fun x hx => ⟨(h.bks x hx).1, (h.bks x hx).2.other ((h.bks x hx).2.ne h.blk (by decide)) _⟩⟩
set_option maxHeartbeats 4000000 in
theorem sum_any (w : World) (S : Nat → Prop) (p : Nat) (v : Value) (es : List (Nat × Bk)) (window n newest t : Int) (h : RingV w S p v es window n newest) (hn : es.length ≤ 1000) (hat : ∀ x, x ∈ es → (0 ≤ x.2.1 ∧ x.2.1 ≤ 1099511627776) ∧ (0 ≤ x.2.2 ∧ x.2.2 ≤ 1125899906842624)) (t0 : 0 ≤ t) (t1 : t ≤ 1099511627776) :
    Calls Tryz.prog 163 #[.pointer (some ⟨p, 0, none⟩), .int .i64 t] w fun e w' => e = .returned (.tuple #[.int .i64 (sumB n t (es.map Prod.snd)), .int .i64 (numB n t (es.map Prod.snd))]) ∧ RingV w' S p v es window n newest ∧ Chg S w w' := by
  have c0 : w.cell? ⟨p, 0, none⟩ = some v := Blk.cell h.blk 0
  have c2 : w.cell? ⟨p, 2, none⟩ = some (.int .i64 1) := Blk.cell h.blk 2
  obtain ⟨va, cap, hv⟩ := h.row.sl
  subst hv
  have H := Lib.hid h
  have HAT := Lib.hid hat
  clear h hat
  have k1 : decide (t < 0) = false := decide_eq_false (by omega)
  go_enter Tryz.func163, Tryz.ntmps163
  go_wp2_with fail
  go_loopw [7, 8, 32] (fun s c i wr => ∃ k : Nat, k ≤ es.length ∧ i = .int .i64 k ∧ s = .int .i64 (sumB n t ((es.map Prod.snd).take k)) ∧ c = .int .i64 (numB n t ((es.map Prod.snd).take k)) ∧ Hid (RingV wr S p (.slice va es.length cap) es window n newest) ∧ Hid (Chg S w wr)) (fun _ _ i _ => es.length - (intOf i).toNat)
  case atStart => exact ⟨0, Nat.zero_le _, rfl, rfl, rfl, H.out, Chg.refl _ _⟩
  case round =>
    obtain ⟨k, hk, rfl, rfl, rfl, HR, HC⟩ := hrel
    by_cases hlt : k < es.length
    · obtain ⟨g, o, rfl, hS, hg, hcap, hmax⟩ := HR.out.row.some_ (by omega)
      obtain ⟨⟨b, a, s⟩, hq⟩ : ∃ x, es[k]? = some x := ⟨es[k], List.getElem?_eq_getElem hlt⟩
      obtain ⟨⟨a0, a1⟩, s0, s1⟩ := HAT.out _ (List.mem_of_getElem? hq)
      obtain ⟨_, hB⟩ := HR.out.bks _ (List.mem_of_getElem? hq)
      have e0 : wr.cell? ⟨g, o + k, none⟩ = some (.iface 245 (.pointer (some ⟨b, 0, none⟩))) := by
        rw [HR.out.row.cellAt k (by omega), List.getElem?_map, hq]
        rfl
      have b0 : wr.cell? ⟨b, 0, none⟩ = some (.int .i64 a) := Blk.cell hB 0
      have b1 : wr.cell? ⟨b, 1, none⟩ = some (.int .i64 s) := Blk.cell hB 1
      have b2 : wr.cell? ⟨b, 2, none⟩ = some (.int .i64 1) := Blk.cell hB 2
      have b3 : wr.cell? ⟨b, 3, none⟩ = some (.bool false) := Blk.cell hB 3
      have p3 : wr.cell? ⟨p, 3, none⟩ = some (.int .i64 n) := Blk.cell HR.out.blk 3
      have p5 : wr.cell? ⟨p, 5, none⟩ = some (.bool false) := Blk.cell HR.out.blk 5
      have f5 := Blk.free HR.out.blk 5
      have hne : b ≠ p := hB.ne HR.out.blk (by decide)
      have hT : (es.map Prod.snd).take (k + 1) = (es.map Prod.snd).take k ++ [(a, s)] := by rw [List.take_add_one, List.getElem?_map, hq]; rfl
      have HN1 := Lib.hid (sumB_snoc n t ((es.map Prod.snd).take k) (a, s))
      have HN2 := Lib.hid (numB_snoc n t ((es.map Prod.snd).take k) (a, s))
      rw [← hT] at HN1 HN2
      obtain ⟨m0, m1⟩ := sumB_bd n t ((es.map Prod.snd).take k) (fun x hx => by
        obtain ⟨y, hy, rfl⟩ := List.mem_map.1 (List.mem_of_mem_take hx)
        exact (HAT.out y hy).2)
      obtain ⟨n0, n1⟩ := numB_bd n t ((es.map Prod.snd).take k)
      have hlen : ((es.map Prod.snd).take k).length = k := by simp; omega
      rw [hlen] at m1 n1
      have m2 : sumB n t ((es.map Prod.snd).take k) ≤ 1125899906842624000 := by omega
      clear m1 hlen hT hq hS hmax hB
      generalize sumB n t ((es.map Prod.snd).take k) = m at *
      generalize numB n t ((es.map Prod.snd).take k) = c at *
      have hlies : lies n t (a, s) = (!decide (t < a) && !decide (n ≤ t - a)) := rfl
      cases x1 : decide (t < a) <;> cases x2 : decide (n ≤ t - a)
      case false.false =>
        rw [x1, x2] at hlies
        rw [hlies] at HN1 HN2
        go_wp2
        go_quiet (fail)
        go_wp2_with (go_at_call 93; refine (P.add_nn m s _ m0 s0 (by omega)).mono ?_; rintro e w' ⟨rfl, rfl⟩)
        have HR2 := Lib.hid ((HR.out.kept ((Chg.refl No wr).drewN nq)).setOver)
        have HC2 := Lib.hid (((HC.out.drewN nq)).set (a := ⟨p, 5, none⟩) (fun _ => HR.out.own) (.bool false))
        go_quiet (fail)
        go_wp2
        go_roundw
        case rel =>
          refine ⟨k + 1, by omega, by go_num, by rw [HN1.out]; simp, by rw [HN2.out]; simp, ?_, ?_⟩
          · exact HR2.out.kept ((Chg.refl No _).drewN _)
          · exact HC2.out.drewN _
        case measure => simp [intOf]; omega
      all_goals
        rw [x1, x2] at hlies
        rw [hlies] at HN1 HN2
        go_wp2
        go_quiet (fail)
        go_wp2
        go_roundw
        case rel =>
          refine ⟨k + 1, by omega, by go_num, by rw [HN1.out]; simp, by rw [HN2.out]; simp, ?_, ?_⟩
          · exact HR.out.kept ((Chg.refl No _).drewN _)
          · exact HC.out.drewN _
        case measure => simp [intOf]; omega
    · obtain rfl : k = es.length := by omega
      rw [List.take_of_length_le (by simp)]
      go_wp2
      go_ret2
      exact ⟨rfl, HR.out, HC.out⟩
set_option maxHeartbeats 2000000 in
theorem mean_any (w : World) (S : Nat → Prop) (p : Nat) (bs : List Bk) (window n newest t : Int) (h : Ring w S p bs window n newest) (hn : bs.length ≤ 1000) (hat : ∀ x, x ∈ bs → (0 ≤ x.1 ∧ x.1 ≤ 1099511627776) ∧ (0 ≤ x.2 ∧ x.2 ≤ 1125899906842624)) (t0 : 0 ≤ t) (t1 : t ≤ 1099511627776) :
    Calls Tryz.prog 133 #[.pointer (some ⟨p, 0, none⟩), .int .i64 t] w fun e w' => e = .returned (.int .i64 (meanB n t bs)) ∧ Ring w' S p bs window n newest ∧ Chg S w w' := by
  obtain ⟨v, es, h, rfl⟩ := h
  rw [List.length_map] at hn
  have HS := Lib.hid (sum_any w S p v es window n newest t h hn (fun x hx => hat x.2 (List.mem_map.2 ⟨x, hx, rfl⟩)) t0 t1)
  obtain ⟨s0, s1⟩ := sumB_bd n t (es.map Prod.snd) (fun x hx => (hat x hx).2)
  obtain ⟨n0, n1⟩ := numB_bd n t (es.map Prod.snd)
  rw [List.length_map] at s1 n1
  have s2 : sumB n t (es.map Prod.snd) ≤ 1125899906842624000 := by omega
  have HM : Hid (meanB n t (es.map Prod.snd) = if numB n t (es.map Prod.snd) = 0 then 0 else sumB n t (es.map Prod.snd) / numB n t (es.map Prod.snd)) := rfl
  have HX : Hid (∀ w', RingV w' S p v es window n newest → Ring w' S p (es.map Prod.snd) window n newest) := fun w' h => ⟨v, es, h, rfl⟩
  clear h hat s1
  generalize sumB n t (es.map Prod.snd) = s at *
  generalize numB n t (es.map Prod.snd) = c at *
  generalize meanB n t (es.map Prod.snd) = m at *
  by_cases h0 : c = 0
  · have k1 : (c == 0) = true := beq_iff_eq.2 h0
    have HM2 : Hid (m = 0) := by show _ = _; rw [HM.out, if_pos h0]
    clear h0 HM
    go_enter Tryz.func133, Tryz.ntmps133
    go_wp2_with fail
    refine HS.out.mono ?_
    rintro e w1 ⟨rfl, hr, hc⟩
    have HR := Lib.hid hr
    have HC := Lib.hid hc
    clear hr hc
    go_wp2
    go_ret
    exact ⟨by rw [HM2.out]; rfl, HX.out _ HR.out, HC.out⟩
  · have k1 : (c == 0) = false := beq_eq_false_iff_ne.2 h0
    have HM2 : Hid (m = s / c) := by show _ = _; rw [HM.out, if_neg h0]
    have q1 : IntKind.i64.wrap (s.tdiv c) = s / c := by
      rw [Int.tdiv_eq_ediv_of_nonneg s0, IntKind.wrap_i64]
      have := Int.ediv_nonneg (a := s) (b := c) s0 n0
      have := Int.ediv_le_self (a := s) c s0
      omega
    clear HM
    go_enter Tryz.func133, Tryz.ntmps133
    go_wp2_with fail
    refine HS.out.mono ?_
    rintro e w1 ⟨rfl, hr, hc⟩
    have HR := Lib.hid hr
    have HC := Lib.hid hc
    clear hr hc
    go_wp2
    go_ret
    exact ⟨by rw [HM2.out]; rfl, HX.out _ HR.out, HC.out⟩
set_option maxHeartbeats 1000000 in
theorem over_any (w : World) (S : Nat → Prop) (p : Nat) (bs : List Bk) (window n newest : Int) (h : Ring w S p bs window n newest) : Calls Tryz.prog 106 #[.pointer (some ⟨p, 0, none⟩)] w fun e w' => e = .returned (.bool false) ∧ w = w' := by
  obtain ⟨v, es, h, _⟩ := h
  have p5 : w.cell? ⟨p, 5, none⟩ = some (.bool false) := Blk.cell h.blk 5
  clear h
  go_enter Tryz.func106, Tryz.ntmps106
  go_wp2
  go_ret
  exact ⟨rfl, rfl⟩
set_option maxHeartbeats 1000000 in
theorem new_any (window : Int) (w : World) (w0 : 1 ≤ window) (w1 : window ≤ 600) : Calls Tryz.prog 73 #[.int .i64 window, .int .i64 1] w fun e w' => e = .returned (.pointer (some ⟨w.heap.size, 0, none⟩)) ∧ w' = w.alloc (.cells #[.slice none 0 0, .int .i64 window, .int .i64 1, .int .i64 window, .int .i64 (-1), .bool false] 180) := by
  have k1 : decide (window < 1) = false := decide_eq_false (by omega)
  have k2 : decide (600 < window) = false := decide_eq_false (by omega)
  have k3 : decide (window < (1 : Int)) = false := decide_eq_false (by omega)
  have e1 : window.tdiv 1 = window := by simp
  go_enter Tryz.func73, Tryz.ntmps73
  go_wp2_with go_in
  go_ret
  exact ⟨rfl, rfl⟩
theorem new_rep (w : World) (window : Int) : Ring (w.alloc (.cells #[.slice none 0 0, .int .i64 window, .int .i64 1, .int .i64 window, .int .i64 (-1), .bool false] 180)) (fun k => k = w.heap.size) w.heap.size [] window window (-1) :=
  ⟨.slice none 0 0, [], ⟨fun k hk => by subst hk; simp, rfl, Blk.new _ _ _, Own.nil _ _ _ _, List.nodup_nil, fun x hx => by cases hx⟩, rfl⟩
end Go.Proofs.YtdgphoemjeakaaaGreatDoor.R
