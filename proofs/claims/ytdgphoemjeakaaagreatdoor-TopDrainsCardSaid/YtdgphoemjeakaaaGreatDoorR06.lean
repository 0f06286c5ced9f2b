/- Packages stat (Spread), sample: what their functions give. The whole service as plain functions. The whole service: what holds of it all the time. The whole service: what holds of it all the time, behind each step. -/
import Derived.Test.YtdgphoemjeakaaaGreatDoorR05
import Derived.Test.YtdgphoemjeakaaaGreatDoorR04
namespace Go.Proofs.YtdgphoemjeakaaaGreatDoor.S
open Go.RowKit K P
set_option maxRecDepth 100000
theorem and_mask {x : Int} (h0 : 0 ≤ x) (h1 : x < 4294967296) : bits .and .u64 x 4294967295 = x := by
  have e1 : (BitVec.ofInt 64 x).toNat = x.toNat := by rw [BitVec.toNat_ofInt]; omega
  have e2 : (BitVec.ofInt 64 4294967295).toNat = 2 ^ 32 - 1 := by decide +kernel
  have l : (BitVec.ofInt 64 x &&& BitVec.ofInt 64 4294967295).toNat = x.toNat := by
    rw [BitVec.toNat_and, e1, e2, Nat.and_two_pow_sub_one_eq_mod, Nat.mod_eq_of_lt (by omega)]
  show IntKind.u64.wrap ((BitVec.ofInt 64 x &&& BitVec.ofInt 64 4294967295).toNat : Int) = _
  rw [l, IntKind.wrap_u64]
  omega
set_option maxHeartbeats 4000000 in
theorem mul64_small (x y : Int) (w : World) (x0 : 0 ≤ x) (x1 : x < 4294967296) (y0 : 0 ≤ y) (y1 : y < 1073741824) : Calls Tryz.prog 132 #[.int .u64 x, .int .u64 y] w fun e w' => e = .returned (.tuple #[.int .u64 0, .int .u64 (x * y)]) ∧ w = w' := by
  have e1 := and_mask x0 x1
  have e2 := and_mask y0 (by omega)
  obtain ⟨m, hm⟩ : ∃ m, x * y = m := ⟨_, rfl⟩
  have m0 : 0 ≤ m := by rw [← hm]; exact Int.mul_nonneg x0 y0
  have m1 : m < 4611686018427387904 := by
    rw [← hm]
    have h1 : x * y ≤ x * 1073741824 := Int.mul_le_mul_of_nonneg_left (by omega) x0
    omega
  have q1 : IntKind.u64.wrap (x * y) = m := by rw [hm, IntKind.wrap_u64]; omega
  have d1 : x / 4294967296 = 0 := by omega
  have d2 : y / 4294967296 = 0 := by omega
  have e3 := and_mask (x := m / 4294967296) (by omega) (by omega)
  have d3 : m / 4294967296 / 4294967296 = 0 := by omega
  have HM := Lib.hid hm
  clear hm
  go_enter Tryz.func132, Tryz.ntmps132
  go_wp2
  go_ret2
  exact ⟨by rw [HM.out]; rfl, rfl⟩
def spread (l : List Stat) (ready : Int) : Int := if l.length = 0 then 0 else sum l * ready / l.length
set_option maxHeartbeats 2000000 in
theorem spread_any (w : World) (S : Nat → Prop) (v : Value) (l : List Stat) (own : Own w S 161 3 v l.length (cellsOf l)) (hn : l.length ≤ 1000) (fine : Fine l) (ready : Int) (r0 : 0 ≤ ready) (r1 : ready ≤ 1000) :
    Calls Tryz.prog 92 #[v, .int .i64 0, .int .i64 ready] w fun e w' => ∃ c, e = .returned (.tuple #[.int .i64 (spread l ready), .int .i64 c]) ∧ Chg No w w' := by
  have HO := Lib.hid own
  obtain ⟨s0, s1⟩ := sum_bd l fine
  have HF := Lib.hid fine
  clear own fine
  by_cases h0 : l.length = 0
  · have k : (((l.length : Nat) : Int) == 0) = true := by rw [h0]; rfl
    have HE : Hid (spread l ready = 0) := if_pos h0
    clear h0
    go_enter Tryz.func92, Tryz.ntmps92
    go_wp2_with fail
    refine (old_any w S v l HO.out hn HF.out).mono ?_
    rintro e w1 ⟨rfl, hc⟩
    have HC := Lib.hid hc
    clear hc
    go_wp2
    go_ret2
    exact ⟨_, by rw [HE.out]; rfl, HC.out⟩
  · have k : (((l.length : Nat) : Int) == 0) = false := beq_eq_false_iff_ne.2 (by omega)
    have k2 : decide (ready < 0) = false := decide_eq_false (by omega)
    have HE : Hid (spread l ready = sum l * ready / l.length) := if_neg h0
    have hl0 : ¬ ((l.length : Nat) : Int) = 0 := by omega
    have hs : sum l ≤ 1000000000 := by omega
    have HM := Lib.hid fun w => mul64_small (sum l) ready w s0 (by omega) r0 (by omega)
    have HT := Lib.hid fun w W' (h : Own w S 161 3 v l.length (cellsOf l)) (_ : W' = w) => old_any w S v l h hn HF.out
    clear s1
    generalize sum l = s at *
    obtain ⟨m, hm⟩ : ∃ m, s * ready = m := ⟨_, rfl⟩
    have m0 : 0 ≤ m := by rw [← hm]; exact Int.mul_nonneg s0 r0
    have m1 : m ≤ 1000000000000 := by
      rw [← hm]
      have h1 : s * ready ≤ s * 1000 := Int.mul_le_mul_of_nonneg_left r1 s0
      omega
    rw [hm] at HM HE
    clear hm h0
    obtain ⟨n, hln⟩ : ∃ n : Nat, l.length = n := ⟨_, rfl⟩
    have q1 : IntKind.i64.wrap (m.tdiv (l.length : Int)) = m / l.length := by
      rw [Int.tdiv_eq_ediv_of_nonneg m0, IntKind.wrap_i64]
      have := Int.ediv_nonneg (a := m) (b := l.length) m0 (by omega)
      have := Int.ediv_le_self (a := m) l.length m0
      omega
    clear hln
    go_enter Tryz.func92, Tryz.ntmps92
    go_wp2_with fail
    refine (HT.out w w HO.out rfl).mono ?_
    rintro e w1 ⟨rfl, hc⟩
    have HC := Lib.hid hc
    clear hc
    go_wp2_with fail
    refine (HM.out _).mono ?_
    rintro e w' ⟨rfl, rfl⟩
    go_wp2
    go_ret2
    exact ⟨_, by rw [HE.out]; rfl, HC.out⟩
end Go.Proofs.YtdgphoemjeakaaaGreatDoor.S
namespace Go.Proofs.YtdgphoemjeakaaaGreatDoor.V
open M (Pod)
structure Req where
  came : Int
  since : Int
  st : Int
  pod : Int
deriving DecidableEq
structure Dec where
  t : Int
  stable : Int
  quick : Int
  want : Int
  panic : Bool
  excess : Int
deriving DecidableEq
structure Sys where
  pods : List Pod
  made : Int
  q : List (Int × Int)
  ql : Int
  b0 : List R.Bk
  b1 : List R.Bk
  nw : Int
  wl : List Dl.Wish
  hl : Int
  si : Int
  mo : Int
  dl : Int
  rs : List Req
  ld : Dec
  now : Int
  want : Int
  proxy : Bool
  zs : Int
  lost : Int
def stand (now st : Int) (rs : List Req) (k : Int) : List Req := rs.modify k.toNat fun r => { r with st := st, since := now }
def fly (now id : Int) (rs : List Req) (k : Int) : List Req := rs.modify k.toNat fun r => { r with st := 2, since := now, pod := id }
def flyFrom (k : Nat) : List Req → List Int
  | [] => []
  | r :: l => if r.st == 2 then (k : Int) :: flyFrom (k + 1) l else flyFrom (k + 1) l
def flying (rs : List Req) : List Int := flyFrom 0 rs
def busyAt (ps : List Pod) (id : Int) : Int := match ps.find? fun q => q.id == id with
  | none => 0
  | some q => q.busy
def least (bs : List Int) (m : Int) : Nat → Int
  | 0 => -1
  | k + 1 => let r := least bs m k; if bs.getD k 0 < m ∧ (r < 0 ∨ bs.getD k 0 < bs.getD r.toNat 0) then k else r
def sentGo (li now : Int) : List (Int × Int) → List Pod → List Req → List (Int × Int) × List Pod × List Req
  | [], ps, rs => ([], ps, rs)
  | x :: q, ps, rs =>
    let ids := M.ready ps
    let k := least (ids.map (busyAt ps)) li ids.length
    if k < 0 then (x :: q, ps, rs) else sentGo li now q (M.enter ps (ids.getD k.toNat 0)).2 (fly now (ids.getD k.toNat 0) rs x.1)
def sent (li : Int) (s : Sys) : Sys :=
  let x := sentGo li s.now s.q s.pods s.rs
  { s with q := x.1, pods := x.2.1, rs := x.2.2 }
def come (s : Sys) : Sys :=
  if 100 ≤ s.q.length then { s with rs := s.rs ++ [⟨s.now, s.now, 5, -1⟩] }
  else { s with rs := s.rs ++ [⟨s.now, s.now, 1, -1⟩], q := s.q ++ [((s.rs.length : Int), s.now)], ql := s.now }
def arrive (li : Int) (s : Sys) : Sys := sent li (come s)
def arrives (li : Int) : Nat → Sys → Sys
  | 0, s => s
  | n + 1, s => arrives li n (arrive li s)
def finish (li : Int) (n : Nat) (s : Sys) : Int × Sys := match (flying s.rs)[n]? with
  | none => (7, s)
  | some k => (0, sent li { s with rs := stand s.now 3 s.rs k, pods := (M.leave s.pods ((s.rs.getD k.toNat ⟨0, 0, 0, 0⟩).pod)).2 })
def stats (ps : List Pod) (now : Int) : List S.Stat := (S.which (M.ready ps) now).flatMap fun id => (ps.filter fun q => q.id == id).map fun q => ⟨id, now - q.since, q.busy * 1000⟩
def scrape (ps : List Pod) (now waits : Int) : Int := S.spread (stats ps now) (M.ready ps).length + waits * 1000
def tick1 (rd : Int) (s : Sys) : Sys :=
  let now := s.now + 1
  let late := s.q.takeWhile (B.late now 60)
  let q := s.q.dropWhile (B.late now 60)
  let rs := late.foldl (fun rs x => stand now 4 rs x.1) s.rs
  let ps := s.pods.map (M.ripe now rd)
  if 0 < s.lost then { s with now := now, q := q, rs := rs, pods := ps, lost := s.lost - 1 }
  else
    let v := scrape ps now q.length
    { s with now := now, q := q, rs := rs, pods := ps, b0 := Me.putB 60 now v s.b0, b1 := Me.putB 6 now v s.b1, nw := now }
def tick2 (bu li : Int) (s : Sys) : Sys :=
  let d := De.nextD bu li s.b0 s.b1 s.wl s.si s.mo s.now (M.ready s.pods).length
  let px := P.proxy bu (M.ready s.pods).length d.excess
  let zs := P.nextState s.zs s.now px
  let want := P.wantAt zs s.now d.want (M.count s.pods) d.stable s.q.length (flying s.rs).length
  { s with wl := d.l, hl := s.now, si := d.since, mo := d.most, dl := s.now, ld := ⟨s.now, d.stable, d.quick, d.want, d.panic, d.excess⟩, proxy := px, zs := zs, want := want }
def tick3 (s : Sys) : Sys :=
  let x := M.scale (min s.want 100).toNat s.now s.pods s.made
  { s with pods := x.1, made := x.2 }
def tick (bu li rd : Int) (s : Sys) : Sys := sent li (tick3 (tick2 bu li (tick1 rd s)))
def ticks (bu li rd : Int) : Nat → Sys → Sys
  | 0, s => s
  | n + 1, s => ticks bu li rd n (tick bu li rd s)
def new (bu ini li : Int) : Sys :=
  let x := M.scale ini.toNat 0 [] 0
  { pods := x.1.map (M.ripe 0 0), made := x.2, q := [], ql := -9223372036854775808, b0 := [], b1 := [], nw := -1, wl := [], hl := 0, si := -1, mo := 0, dl := 0, rs := [], ld := ⟨0, 0, 0, 0, false, 0⟩, now := 0, want := ini, proxy := P.proxy bu ini (P.excess bu li ini 0), zs := -1, lost := 0 }
def ends (rs : List Req) (st : Int) : Int := (rs.filter fun r => r.st == st).length
def finishes (li : Int) : Nat → Sys → Sys
  | 0, s => s
  | n + 1, s => finishes li n (finish li 0 s).2
def up : Sys := ticks 20000 10 3 10 (arrives 10 30 (new 20000 1 10))
def down : Sys := ticks 20000 10 3 200 (finishes 10 30 up)
def told : Bool := ends up.rs 2 == 30 && (decide (1 < up.pods.length) && (up.ld.panic && (decide (down.pods.length = 0) && (down.want == 0 && (ends down.rs 3 == 30 && down.proxy)))))
end Go.Proofs.YtdgphoemjeakaaaGreatDoor.V
namespace Go.Proofs.YtdgphoemjeakaaaGreatDoor.V
open M (Pod)
def load : List Pod → Int
  | [] => 0
  | p :: l => p.busy + load l
theorem load_append (a b : List Pod) : load (a ++ b) = load a + load b := by
  induction a with
  | nil => simp [load]
  | cons p a ih => simp [load, ih]; omega
theorem load_set : ∀ (l : List Pod) (k : Nat) (q q' : Pod), l[k]? = some q → load (l.set k q') = load l + q'.busy - q.busy
  | [], _, _, _, h => by simp at h
  | a :: l, 0, q, q', h => by
    simp at h
    subst h
    simp only [List.set_cons_zero, load]; omega
  | a :: l, k + 1, q, q', h => by
    simp at h
    have := load_set l k q q' h
    simp only [List.set_cons_succ, load]; omega
theorem load_erase : ∀ (l : List Pod) (k : Nat) (q : Pod), l[k]? = some q → load (l.eraseIdx k) = load l - q.busy
  | [], _, _, h => by simp at h
  | a :: l, 0, q, h => by
    simp at h
    subst h
    simp only [List.eraseIdx_cons_zero, load]; omega
  | a :: l, k + 1, q, h => by
    simp at h
    have := load_erase l k q h
    simp only [List.eraseIdx_cons_succ, load]; omega
theorem load_map (f : Pod → Pod) (hf : ∀ p, (f p).busy = p.busy) : ∀ (l : List Pod), load (l.map f) = load l
  | [] => rfl
  | p :: l => by simp only [List.map_cons, load, hf, load_map f hf l]
theorem len_load : ∀ (l : List Pod), (∀ p, p ∈ l → 0 ≤ p.busy ∧ (p.st = 3 → 0 < p.busy)) → (l.length : Int) ≤ M.count l + load l
  | [], _ => by simp [M.count, load]
  | p :: l, h => by
    have := len_load l fun q hq => h q (List.mem_cons_of_mem _ hq)
    obtain ⟨h1, h2⟩ := h p List.mem_cons_self
    rw [M.count_cons]
    simp only [load, List.length_cons]
    by_cases h3 : p.st = 3
    · have : (p.st != 3) = false := by simp [h3]
      rw [this]
      have := h2 h3
      simp; omega
    · have : (p.st != 3) = true := by simp [h3]
      rw [this]
      simp; omega
structure PodsOk (li now made : Int) (ps : List Pod) : Prop where
  cnt : M.count ps ≤ 100
  ids : (ps.map Pod.id).Nodup
  pod : ∀ p, p ∈ ps → (0 ≤ p.id ∧ p.id < made) ∧ (0 ≤ p.busy ∧ p.busy ≤ li) ∧ (0 ≤ p.since ∧ p.since ≤ now) ∧ (p.st = 3 → 0 < p.busy)
  made : 0 ≤ made ∧ made ≤ 100 * (now + 1)
theorem PodsOk.busy {li now made : Int} {ps : List Pod} (h : PodsOk li now made ps) : ∀ p, p ∈ ps → 0 ≤ p.busy := fun p hp => (h.pod p hp).2.1.1
theorem PodsOk.len {li now made : Int} {ps : List Pod} (h : PodsOk li now made ps) : (ps.length : Int) ≤ 100 + load ps := by
  have h1 := len_load ps fun p hp => ⟨h.busy p hp, (h.pod p hp).2.2.2⟩
  have := h.cnt
  omega
theorem PodsOk.later {li now now' made : Int} {ps : List Pod} (h : PodsOk li now made ps) (hn : now ≤ now') : PodsOk li now' made ps :=
  ⟨h.cnt, h.ids, fun p hp => by obtain ⟨a, b, c, d⟩ := h.pod p hp; exact ⟨a, b, ⟨c.1, by omega⟩, d⟩, ⟨h.made.1, by have := h.made.2; omega⟩⟩
theorem set_ids {ps : List Pod} {k : Nat} {q q' : Pod} (hk : ps[k]? = some q) (hi : q'.id = q.id) : (ps.set k q').map Pod.id = ps.map Pod.id := by
  rw [List.map_set]
  apply List.ext_getElem?
  intro t
  rw [List.getElem?_set]
  by_cases e : k = t
  · subst e
    have := (List.getElem?_eq_some_iff.1 hk).1
    rw [if_pos rfl, if_pos (by simpa using this), List.getElem?_map, hk, hi]; rfl
  · rw [if_neg e]
theorem count_set_le : ∀ (ps : List Pod) (k : Nat) (q q' : Pod), ps[k]? = some q → (q'.st = q.st ∨ q'.st = 3) → M.count (ps.set k q') ≤ M.count ps
  | [], _, _, _, h, _ => by simp at h
  | a :: l, 0, q, q', h, hs => by
    simp at h
    subst h
    rw [List.set_cons_zero, M.count_cons, M.count_cons]
    rcases hs with hs | hs
    · rw [hs]; exact Nat.le_refl _
    · have : (q'.st != 3) = false := by simp [hs]
      rw [this]; simp
  | a :: l, k + 1, q, q', h, hs => by
    simp at h
    have := count_set_le l k q q' h hs
    rw [List.set_cons_succ, M.count_cons, M.count_cons]
    omega
theorem count_erase_le (ps : List Pod) (k : Nat) : M.count (ps.eraseIdx k) ≤ M.count ps := by
  unfold M.count
  exact ((List.eraseIdx_sublist ps k).filter _).length_le
theorem PodsOk.set {li now made : Int} {ps : List Pod} (h : PodsOk li now made ps) {k : Nat} {q q' : Pod} (hk : ps[k]? = some q) (hi : q'.id = q.id) (hs : q'.st = q.st ∨ q'.st = 3) (hb : 0 ≤ q'.busy ∧ q'.busy ≤ li) (hc : q'.since = q.since ∨ (0 ≤ q'.since ∧ q'.since ≤ now)) (h3 : q'.st = 3 → 0 < q'.busy) : PodsOk li now made (ps.set k q') := by
  obtain ⟨a, b, c, d⟩ := h.pod q (List.mem_of_getElem? hk)
  refine ⟨Nat.le_trans (count_set_le ps k q q' hk hs) h.cnt, by rw [set_ids hk hi]; exact h.ids, fun p hp => ?_, h.made⟩
  rcases List.mem_or_eq_of_mem_set hp with hp | rfl
  · exact h.pod p hp
  · exact ⟨by rw [hi]; exact a, hb, hc.elim (fun e => by rw [e]; exact c) id, h3⟩
theorem PodsOk.erase {li now made : Int} {ps : List Pod} (h : PodsOk li now made ps) (k : Nat) : PodsOk li now made (ps.eraseIdx k) :=
  ⟨Nat.le_trans (count_erase_le ps k) h.cnt, h.ids.sublist ((List.eraseIdx_sublist ps k).map _), fun p hp => h.pod p (List.mem_of_mem_eraseIdx hp), h.made⟩
theorem PodsOk.ripe {li now made : Int} {ps : List Pod} (h : PodsOk li now made ps) (t rd : Int) : PodsOk li now made (ps.map (M.ripe t rd)) := by
  have hi : ∀ p, (M.ripe t rd p).id = p.id := fun p => by unfold M.ripe; split <;> rfl
  have hb : ∀ p, (M.ripe t rd p).busy = p.busy := fun p => by unfold M.ripe; split <;> rfl
  have hs : ∀ p, (M.ripe t rd p).since = p.since := fun p => by unfold M.ripe; split <;> rfl
  have h3 : ∀ p, (M.ripe t rd p).st = 3 → p.st = 3 := fun p => by
    unfold M.ripe
    split
    · intro e; exact absurd e (by show ¬ (2 : Int) = 3; decide)
    · exact id
  have hc : M.count (ps.map (M.ripe t rd)) = M.count ps := by
    unfold M.count
    rw [List.filter_map, List.length_map]
    congr 1
    congr 1
    funext p
    simp only [Function.comp]
    unfold M.ripe
    split
    · rename_i hp
      simp only [Bool.and_eq_true, beq_iff_eq] at hp
      rw [hp.1]
      rfl
    · rfl
  refine ⟨by rw [hc]; exact h.cnt, ?_, fun p hp => ?_, h.made⟩
  · rw [List.map_map]
    have : (Pod.id ∘ M.ripe t rd) = Pod.id := funext hi
    rw [this]; exact h.ids
  · obtain ⟨q, hq, rfl⟩ := List.mem_map.1 hp
    obtain ⟨a, b, c, d⟩ := h.pod q hq
    exact ⟨by rw [hi]; exact a, by rw [hb]; exact b, by rw [hs]; exact c, fun e => by rw [hb]; exact d (h3 q e)⟩
theorem load_ripe (ps : List Pod) (t rd : Int) : load (ps.map (M.ripe t rd)) = load ps := load_map _ (fun p => by unfold M.ripe; split <;> rfl) ps
theorem find_idx {ps : List Pod} {id : Int} {k : Nat} (h : ps.findIdx? (fun q => q.id == id) = some k) : ∃ q, ps[k]? = some q ∧ ps.find? (fun q => q.id == id) = some q ∧ q.id = id := by
  rw [List.findIdx?_eq_some_iff_getElem] at h
  obtain ⟨hk, h1, h2⟩ := h
  refine ⟨ps[k], List.getElem?_eq_getElem hk, ?_, by simpa using h1⟩
  rw [List.find?_eq_some_iff_getElem]
  exact ⟨h1, k, hk, rfl, fun j hj => by have := h2 j hj; simpa using this⟩
theorem PodsOk.enter {li now made : Int} {ps : List Pod} (h : PodsOk li now made ps) (id : Int) (hb : busyAt ps id < li) : PodsOk li now made (M.enter ps id).2 ∧ load (M.enter ps id).2 ≤ load ps + 1 := by
  unfold M.enter
  split
  · exact ⟨h, by show load ps ≤ load ps + 1; omega⟩
  · rename_i k hk
    obtain ⟨q, hq, hf, _⟩ := find_idx hk
    have hbq : q.busy < li := by unfold busyAt at hb; rw [hf] at hb; exact hb
    obtain ⟨_, ⟨b0, _⟩, _, d⟩ := h.pod q (List.mem_of_getElem? hq)
    simp only [hq]
    split
    · exact ⟨h, by show load ps ≤ load ps + 1; omega⟩
    · refine ⟨h.set hq rfl (.inl rfl) ⟨by show 0 ≤ q.busy + 1; omega, by show q.busy + 1 ≤ li; omega⟩ (.inl rfl) fun _ => by show 0 < q.busy + 1; omega, ?_⟩
      rw [load_set _ _ _ _ hq]
      simp only; omega
theorem PodsOk.leave {li now made : Int} {ps : List Pod} (h : PodsOk li now made ps) (id : Int) : PodsOk li now made (M.leave ps id).2 ∧ load (M.leave ps id).2 ≤ load ps := by
  unfold M.leave
  split
  · exact ⟨h, Int.le_refl _⟩
  · rename_i k hk
    obtain ⟨q, hq, _, _⟩ := find_idx hk
    obtain ⟨_, ⟨b0, b1⟩, _, d⟩ := h.pod q (List.mem_of_getElem? hq)
    simp only [hq]
    split
    · exact ⟨h, Int.le_refl _⟩
    · rename_i h0
      have h0' : q.busy ≠ 0 := by simpa using h0
      split
      · rename_i h1
        exact ⟨h.erase k, by simp only [load_erase _ _ _ hq]; omega⟩
      · rename_i h1
        refine ⟨h.set hq rfl (.inl rfl) ⟨by show 0 ≤ q.busy - 1; omega, by show q.busy - 1 ≤ li; omega⟩ (.inl rfl) fun h3 => ?_, by rw [load_set _ _ _ _ hq]; simp only; omega⟩
        have h3' : q.st = 3 := h3
        show 0 < q.busy - 1
        have : q.busy - 1 ≠ 0 := fun e => h1 (by simp [e, h3'])
        omega
theorem PodsOk.gone {li now made : Int} {ps : List Pod} (h : PodsOk li now made ps) (n0 : 0 ≤ now) : PodsOk li now made (M.gone now ps) ∧ load (M.gone now ps) ≤ load ps := by
  unfold M.gone
  split
  · exact ⟨h, Int.le_refl _⟩
  · rename_i q hq
    obtain ⟨_, ⟨b0, b1⟩, _, d⟩ := h.pod q (List.mem_of_getElem? hq)
    split
    · exact ⟨h.erase _, by rw [load_erase _ _ _ hq]; omega⟩
    · rename_i h0
      have h0' : q.busy ≠ 0 := by simpa using h0
      exact ⟨h.set hq rfl (.inr rfl) ⟨b0, b1⟩ (.inr ⟨n0, Int.le_refl _⟩) fun _ => by show 0 < q.busy; omega, by rw [load_set _ _ _ _ hq]; simp only; omega⟩
theorem PodsOk.fewer {li now made : Int} (n0 : 0 ≤ now) : ∀ (n : Nat) {ps : List Pod}, PodsOk li now made ps → PodsOk li now made (M.fewer now n ps) ∧ load (M.fewer now n ps) ≤ load ps
  | 0, _, h => ⟨h, Int.le_refl _⟩
  | n + 1, ps, h => by
    obtain ⟨h1, h2⟩ := h.gone n0
    obtain ⟨h3, h4⟩ := PodsOk.fewer n0 n h1
    exact ⟨h3, Int.le_trans h4 h2⟩
theorem more_made (now : Int) : ∀ (n : Nat) (ps : List Pod) (made : Int), (M.more now n (ps, made)).2 = made + n
  | 0, _, _ => by simp [M.more]
  | n + 1, ps, made => by
    rw [M.more, more_made now n]
    simp; omega
theorem more_count (now : Int) : ∀ (n : Nat) (ps : List Pod) (made : Int), M.count (M.more now n (ps, made)).1 = M.count ps + n
  | 0, _, _ => by simp [M.more]
  | n + 1, ps, made => by
    rw [M.more, more_count now n, M.count_snoc]
    simp; omega
theorem more_load (now : Int) : ∀ (n : Nat) (ps : List Pod) (made : Int), load (M.more now n (ps, made)).1 = load ps
  | 0, _, _ => by simp [M.more]
  | n + 1, ps, made => by
    rw [M.more, more_load now n, load_append]
    simp [load]
structure PodsAll (li now made : Int) (ps : List Pod) : Prop where
  ids : (ps.map Pod.id).Nodup
  pod : ∀ p, p ∈ ps → (0 ≤ p.id ∧ p.id < made) ∧ (0 ≤ p.busy ∧ p.busy ≤ li) ∧ (0 ≤ p.since ∧ p.since ≤ now) ∧ (p.st = 3 → 0 < p.busy)
theorem more_all {li now : Int} (n0 : 0 ≤ now) (l0 : 0 ≤ li) : ∀ (n : Nat) (ps : List Pod) (made : Int), 0 ≤ made → PodsAll li now made ps → PodsAll li now (made + n) (M.more now n (ps, made)).1
  | 0, _, _, _, h => by simpa [M.more] using h
  | n + 1, ps, made, m0, h => by
    rw [M.more]
    have h1 : PodsAll li now (made + 1) (ps ++ [⟨made, 1, 0, now⟩]) := by
      refine ⟨?_, fun p hp => ?_⟩
      · rw [List.map_append, List.nodup_append]
        refine ⟨h.ids, by simp, fun a ha b hb => ?_⟩
        obtain ⟨p, hp, rfl⟩ := List.mem_map.1 ha
        have := (h.pod p hp).1.2
        simp at hb
        omega
      · rcases List.mem_append.1 hp with hp | hp
        · obtain ⟨a, b⟩ := h.pod p hp
          exact ⟨⟨a.1, by omega⟩, b⟩
        · rw [List.mem_singleton.1 hp]
          exact ⟨⟨m0, by show made < made + 1; omega⟩, ⟨Int.le_refl 0, l0⟩, ⟨n0, Int.le_refl _⟩, fun e => absurd e (by show ¬ (1 : Int) = 3; decide)⟩
    have := more_all n0 l0 n _ (made + 1) (by omega) h1
    rw [show made + ((n + 1 : Nat) : Int) = made + 1 + n by omega]
    exact this
theorem count_fewer (now : Int) : ∀ (n : Nat) (ps : List Pod), n ≤ M.count ps → M.count (M.fewer now n ps) + n = M.count ps
  | 0, _, _ => rfl
  | n + 1, ps, h => by
    rw [M.fewer]
    have h1 := M.count_gone now ps (by omega)
    have := count_fewer now n (M.gone now ps) (by omega)
    omega
theorem PodsAll.gone {li now made : Int} {ps : List Pod} (h : PodsAll li now made ps) (n0 : 0 ≤ now) : PodsAll li now made (M.gone now ps) ∧ load (M.gone now ps) ≤ load ps := by
  unfold M.gone
  split
  · exact ⟨h, Int.le_refl _⟩
  · rename_i q hq
    obtain ⟨a, ⟨b0, b1⟩, c, d⟩ := h.pod q (List.mem_of_getElem? hq)
    split
    · exact ⟨⟨h.ids.sublist ((List.eraseIdx_sublist ps _).map _), fun p hp => h.pod p (List.mem_of_mem_eraseIdx hp)⟩, by rw [load_erase _ _ _ hq]; omega⟩
    · rename_i h0
      have h0' : q.busy ≠ 0 := by simpa using h0
      refine ⟨⟨(set_ids (q' := ⟨q.id, 3, q.busy, now⟩) hq rfl).symm ▸ h.ids, fun p hp => ?_⟩, by rw [load_set _ _ _ _ hq]; simp only; omega⟩
      rcases List.mem_or_eq_of_mem_set hp with hp | rfl
      · exact h.pod p hp
      · exact ⟨a, ⟨b0, b1⟩, ⟨n0, Int.le_refl _⟩, fun _ => by show 0 < q.busy; omega⟩
theorem PodsAll.fewer {li now made : Int} (n0 : 0 ≤ now) : ∀ (n : Nat) {ps : List Pod}, PodsAll li now made ps → PodsAll li now made (M.fewer now n ps) ∧ load (M.fewer now n ps) ≤ load ps
  | 0, _, h => ⟨h, Int.le_refl _⟩
  | n + 1, ps, h => by
    obtain ⟨h1, h2⟩ := h.gone n0
    obtain ⟨h3, h4⟩ := PodsAll.fewer n0 n h1
    exact ⟨h3, Int.le_trans h4 h2⟩
theorem scale_count (want : Nat) (now : Int) (ps : List Pod) (made : Int) : M.count (M.scale want now ps made).1 = want := by
  unfold M.scale
  have h1 := more_count now (want - M.count ps) ps made
  have h2 := count_fewer now (M.count (M.more now (want - M.count ps) (ps, made)).1 - want) (M.more now (want - M.count ps) (ps, made)).1 (by omega)
  simp only
  omega
theorem PodsOk.scale {li now made : Int} {ps : List Pod} (h : PodsOk li now made ps) (n0 : 0 ≤ now) (l0 : 0 ≤ li) (want : Nat) (hw : want ≤ 100) (hm : made ≤ 100 * now) :
    PodsOk li now (M.scale want now ps made).2 (M.scale want now ps made).1 ∧ load (M.scale want now ps made).1 ≤ load ps := by
  have hc := scale_count want now ps made
  have h1 := more_all n0 l0 (want - M.count ps) ps made h.made.1 ⟨h.ids, h.pod⟩
  have h2 := more_made now (want - M.count ps) ps made
  have h3 := more_load now (want - M.count ps) ps made
  rw [← h2] at h1
  obtain ⟨h4, h5⟩ := PodsAll.fewer n0 (M.count (M.more now (want - M.count ps) (ps, made)).1 - want) h1
  have hm0 := h.made.1
  refine ⟨⟨by omega, h4.ids, h4.pod, ?_⟩, ?_⟩
  · show 0 ≤ (M.more now (want - M.count ps) (ps, made)).2 ∧ (M.more now (want - M.count ps) (ps, made)).2 ≤ _
    omega
  · show load (M.fewer now _ (M.more now (want - M.count ps) (ps, made)).1) ≤ _
    omega
end Go.Proofs.YtdgphoemjeakaaaGreatDoor.V
namespace Go.Proofs.YtdgphoemjeakaaaGreatDoor.V
open M (Pod)
open R (Bk)
theorem sorted_len {lo hi : Int} (hh : lo ≤ hi) : ∀ (l : List Int), l.Pairwise (· < ·) → (∀ x, x ∈ l → lo < x ∧ x ≤ hi) → (l.length : Int) ≤ hi - lo
  | [], _, _ => by simp; omega
  | x :: l, hp, h => by
    obtain ⟨h1, h2⟩ := List.pairwise_cons.1 hp
    have hx := h x List.mem_cons_self
    have := sorted_len (lo := x) (hi := hi) hx.2 l h2 fun y hy => ⟨h1 y hy, (h y (List.mem_cons_of_mem _ hy)).2⟩
    rw [List.length_cons]
    omega
structure WinOk (n newest : Int) (bs : List Bk) : Prop where
  sorted : (bs.map Prod.fst).Pairwise (· < ·)
  at_ : ∀ x, x ∈ bs → (0 ≤ x.1 ∧ newest - n < x.1 ∧ x.1 ≤ newest) ∧ (0 ≤ x.2 ∧ x.2 ≤ 1125899906842624)
theorem WinOk.fine {n newest : Int} {bs : List Bk} (h : WinOk n newest bs) (n0 : 0 ≤ n) (n1 : n ≤ 1000) : Me.Fine newest bs := by
  refine ⟨?_, fun x hx => ⟨⟨(h.at_ x hx).1.1, (h.at_ x hx).1.2.2⟩, (h.at_ x hx).2⟩⟩
  have := sorted_len (lo := newest - n) (hi := newest) (by omega) _ h.sorted (by
    intro x hx
    obtain ⟨b, hb, rfl⟩ := List.mem_map.1 hx
    exact (h.at_ b hb).1.2)
  rw [List.length_map] at this
  omega
theorem WinOk.put {n newest t v : Int} {bs : List Bk} (h : WinOk n newest bs) (n0 : 0 < n) (t0 : 0 ≤ t) (ht : newest < t) (v0 : 0 ≤ v) (v1 : v ≤ 1125899906842624) : WinOk n t (Me.putB n t v bs) := by
  unfold Me.putB
  refine ⟨?_, fun x hx => ?_⟩
  · rw [List.map_append, List.pairwise_append]
    refine ⟨h.sorted.sublist (List.filter_sublist.map _), by simp, fun a ha b hb => ?_⟩
    obtain ⟨x, hx, rfl⟩ := List.mem_map.1 ha
    have := (h.at_ x (List.mem_filter.1 hx).1).1
    simp at hb
    omega
  · rcases List.mem_append.1 hx with hx | hx
    · obtain ⟨h1, h2⟩ := List.mem_filter.1 hx
      obtain ⟨h3, h4⟩ := h.at_ x h1
      simp at h2
      exact ⟨⟨h3.1, by omega, by omega⟩, h4⟩
    · rw [List.mem_singleton.1 hx]
      exact ⟨⟨t0, by show t - n < t; omega, Int.le_refl _⟩, v0, v1⟩
structure DecOk (b0 b1 : List Bk) (nw : Int) (wl : List Dl.Wish) (hl si mo dl now : Int) : Prop where
  w0 : WinOk 60 nw b0
  w1 : WinOk 6 nw b1
  nwB : -1 ≤ nw ∧ nw ≤ now
  wlB : ∀ x, x ∈ wl → (0 ≤ x.1 ∧ x.1 ≤ now) ∧ (0 ≤ x.2 ∧ x.2 ≤ 1000000)
  hlB : (wl.length : Int) ≤ hl ∧ hl ≤ now
  siB : -1 ≤ si ∧ si ≤ now
  moB : 0 ≤ mo ∧ mo ≤ 1000000
  dlB : 0 ≤ dl ∧ dl ≤ now
structure Inv (li : Int) (s : Sys) : Prop where
  now0 : 0 ≤ s.now
  pods : PodsOk li s.now s.made s.pods
  load : load s.pods + s.q.length ≤ s.rs.length
  qlen : s.q.length ≤ 100
  qat : ∀ x, x ∈ s.q → (0 ≤ x.1 ∧ x.1 < s.rs.length) ∧ (0 ≤ x.2 ∧ x.2 ≤ s.now)
  ql : s.ql ≤ s.now
  rst : ∀ r, r ∈ s.rs → 0 ≤ r.st ∧ r.st ≤ 6
  dec : DecOk s.b0 s.b1 s.nw s.wl s.hl s.si s.mo s.dl s.now
  lost : 0 ≤ s.lost ∧ s.lost ≤ 1000
  zs : -1 ≤ s.zs ∧ s.zs ≤ s.now
  want : 0 ≤ s.want ∧ s.want ≤ 1000000
theorem stand_len (now st : Int) (rs : List Req) (k : Int) : (stand now st rs k).length = rs.length := by simp [stand]
theorem fly_len (now id : Int) (rs : List Req) (k : Int) : (fly now id rs k).length = rs.length := by simp [fly]
theorem mem_modify {α : Type} {f : α → α} {x : α} : ∀ {l : List α} {k : Nat}, x ∈ l.modify k f → x ∈ l ∨ ∃ y, y ∈ l ∧ x = f y
  | [], k, h => by simp at h
  | a :: l, 0, h => by
    rw [List.modify_zero_cons] at h
    rcases List.mem_cons.1 h with rfl | h
    · exact .inr ⟨a, List.mem_cons_self, rfl⟩
    · exact .inl (List.mem_cons_of_mem _ h)
  | a :: l, k + 1, h => by
    rw [List.modify_succ_cons] at h
    rcases List.mem_cons.1 h with rfl | h
    · exact .inl List.mem_cons_self
    · rcases mem_modify h with h | ⟨y, hy, e⟩
      · exact .inl (List.mem_cons_of_mem _ h)
      · exact .inr ⟨y, List.mem_cons_of_mem _ hy, e⟩
theorem stand_st {now st : Int} {rs : List Req} {k : Int} (h : ∀ r, r ∈ rs → 0 ≤ r.st ∧ r.st ≤ 6) (h0 : 0 ≤ st) (h6 : st ≤ 6) : ∀ r, r ∈ stand now st rs k → 0 ≤ r.st ∧ r.st ≤ 6 := by
  intro r hr
  rcases mem_modify hr with hr | ⟨y, _, rfl⟩
  · exact h r hr
  · exact ⟨h0, h6⟩
theorem fly_st {now id : Int} {rs : List Req} {k : Int} (h : ∀ r, r ∈ rs → 0 ≤ r.st ∧ r.st ≤ 6) : ∀ r, r ∈ fly now id rs k → 0 ≤ r.st ∧ r.st ≤ 6 := by
  intro r hr
  rcases mem_modify hr with hr | ⟨y, _, rfl⟩
  · exact h r hr
  · exact ⟨by show (0 : Int) ≤ 2; decide, by show (2 : Int) ≤ 6; decide⟩
theorem least_bd (bs : List Int) (m : Int) (k : Nat) : -1 ≤ least bs m k ∧ least bs m k < k := by
  induction k with
  | zero => simp [least]
  | succ k ih =>
    unfold least
    simp only
    split <;> omega
theorem least_lt (bs : List Int) (m : Int) (k : Nat) (h : 0 ≤ least bs m k) : bs.getD (least bs m k).toNat 0 < m := by
  induction k with
  | zero => simp [least] at h
  | succ k ih =>
    unfold least at h ⊢
    simp only at h ⊢
    split
    · rename_i h1
      rw [Int.toNat_natCast]
      exact h1.1
    · rename_i h1
      rw [if_neg h1] at h
      exact ih h
structure SendOk (li now made : Int) (ql : Nat) (q : List (Int × Int)) (ps : List Pod) (rs : List Req) : Prop where
  pods : PodsOk li now made ps
  load : load ps + q.length ≤ rs.length
  qlen : q.length ≤ ql
  qat : ∀ x, x ∈ q → (0 ≤ x.1 ∧ x.1 < rs.length) ∧ (0 ≤ x.2 ∧ x.2 ≤ now)
  rst : ∀ r, r ∈ rs → 0 ≤ r.st ∧ r.st ≤ 6
theorem sendTo_room {ps : List Pod} {li : Int} (h : ¬ least ((M.ready ps).map (busyAt ps)) li (M.ready ps).length < 0) : busyAt ps ((M.ready ps).getD (least ((M.ready ps).map (busyAt ps)) li (M.ready ps).length).toNat 0) < li := by
  have h1 := least_lt ((M.ready ps).map (busyAt ps)) li (M.ready ps).length (by omega)
  obtain ⟨h2, h3⟩ := least_bd ((M.ready ps).map (busyAt ps)) li (M.ready ps).length
  have h4 : (least ((M.ready ps).map (busyAt ps)) li (M.ready ps).length).toNat < (M.ready ps).length := by omega
  simp only [List.getD, List.getElem?_map, List.getElem?_eq_getElem h4, Option.map_some, Option.getD_some] at h1 ⊢
  exact h1
theorem SendOk.one {li now made : Int} {n : Nat} {x : Int × Int} {q : List (Int × Int)} {ps : List Pod} {rs : List Req} (h : SendOk li now made n (x :: q) ps rs) (id : Int) (hb : busyAt ps id < li) : SendOk li now made n q (M.enter ps id).2 (fly now id rs x.1) := by
  obtain ⟨h1, h2⟩ := h.pods.enter id hb
  have h3 := h.load
  have h4 := h.qlen
  simp only [List.length_cons] at h3 h4
  refine ⟨h1, by rw [fly_len]; omega, by omega, fun y hy => by rw [fly_len]; exact h.qat y (List.mem_cons_of_mem _ hy), fly_st h.rst⟩
theorem SendOk.go {li now made : Int} {n : Nat} : ∀ {q : List (Int × Int)} {ps : List Pod} {rs : List Req}, SendOk li now made n q ps rs → SendOk li now made n (sentGo li now q ps rs).1 (sentGo li now q ps rs).2.1 (sentGo li now q ps rs).2.2
  | [], _, _, h => h
  | x :: q, ps, rs, h => by
    unfold sentGo
    simp only
    split
    · exact h
    · rename_i h1
      exact SendOk.go (h.one _ (sendTo_room h1))
theorem Inv.send {li : Int} {s : Sys} (h : Inv li s) : SendOk li s.now s.made 100 s.q s.pods s.rs := ⟨h.pods, h.load, h.qlen, h.qat, h.rst⟩
theorem Inv.ofSend {li : Int} {s : Sys} (h : Inv li s) {q : List (Int × Int)} {ps : List Pod} {rs : List Req} (g : SendOk li s.now s.made 100 q ps rs) : Inv li { s with q := q, pods := ps, rs := rs } :=
  ⟨h.now0, g.pods, g.load, g.qlen, g.qat, h.ql, g.rst, h.dec, h.lost, h.zs, h.want⟩
theorem Inv.sent {li : Int} {s : Sys} (h : Inv li s) : Inv li (sent li s) := h.ofSend h.send.go
theorem Inv.come {li : Int} {s : Sys} (h : Inv li s) : Inv li (come s) := by
  have h1 := h.load
  unfold V.come
  split
  · refine ⟨h.now0, h.pods, ?_, h.qlen, fun x hx => ?_, h.ql, fun r hr => ?_, h.dec, h.lost, h.zs, h.want⟩
    · simp only [List.length_append, List.length_cons, List.length_nil]; omega
    · have := h.qat x hx
      simp only [List.length_append, List.length_cons, List.length_nil]; omega
    · rcases List.mem_append.1 hr with hr | hr
      · exact h.rst r hr
      · rw [List.mem_singleton.1 hr]; exact ⟨by show (0 : Int) ≤ 5; decide, by show (5 : Int) ≤ 6; decide⟩
  · rename_i hq
    refine ⟨h.now0, h.pods, ?_, ?_, fun x hx => ?_, Int.le_refl _, fun r hr => ?_, h.dec, h.lost, h.zs, h.want⟩
    · simp only [List.length_append, List.length_cons, List.length_nil]; omega
    · simp only [List.length_append, List.length_cons, List.length_nil]; omega
    · simp only [List.length_append, List.length_cons, List.length_nil]
      rcases List.mem_append.1 hx with hx | hx
      · have := h.qat x hx; omega
      · rw [List.mem_singleton.1 hx]
        have := h.now0
        exact ⟨⟨by simp only; omega, by simp only; omega⟩, this, Int.le_refl _⟩
    · rcases List.mem_append.1 hr with hr | hr
      · exact h.rst r hr
      · rw [List.mem_singleton.1 hr]; exact ⟨by show (0 : Int) ≤ 1; decide, by show (1 : Int) ≤ 6; decide⟩
theorem Inv.arrive {li : Int} {s : Sys} (h : Inv li s) : Inv li (arrive li s) := h.come.sent
theorem Inv.arrives {li : Int} : ∀ (n : Nat) {s : Sys}, Inv li s → Inv li (arrives li n s)
  | 0, _, h => h
  | n + 1, _, h => Inv.arrives n h.arrive
theorem Inv.finish {li : Int} {n : Nat} {s : Sys} (h : Inv li s) : Inv li (finish li n s).2 := by
  unfold V.finish
  split
  · exact h
  · rename_i k hk
    refine Inv.sent ?_
    obtain ⟨h1, h2⟩ := h.pods.leave (s.rs.getD k.toNat ⟨0, 0, 0, 0⟩).pod
    have h3 := h.load
    exact ⟨h.now0, h1, by simp only [stand_len]; omega, h.qlen, fun x hx => by simp only [stand_len]; exact h.qat x hx, h.ql, stand_st h.rst (by decide) (by decide), h.dec, h.lost, h.zs, h.want⟩
theorem which_len (ids : List Int) (r : Int) : (S.which ids r).length = S.size ids.length := by simp [S.which]
theorem filter_one {ps : List Pod} (h : (ps.map Pod.id).Nodup) (id : Int) : (ps.filter fun q => q.id == id).length ≤ 1 := by
  induction ps with
  | nil => simp
  | cons p l ih =>
    rw [List.map_cons, List.nodup_cons] at h
    have := ih h.2
    rw [List.filter_cons]
    split
    · rename_i hp
      have hp' : p.id = id := by simpa using hp
      have : l.filter (fun q => q.id == id) = [] := by
        rw [List.filter_eq_nil_iff]
        intro q hq hq2
        have hq3 : q.id = id := by simpa using hq2
        exact h.1 (List.mem_map.2 ⟨q, hq, by rw [hq3, hp']⟩)
      rw [this]; simp
    · exact this
theorem flat_len {α β : Type} {f : α → List β} (hf : ∀ a, (f a).length ≤ 1) : ∀ (l : List α), (l.flatMap f).length ≤ l.length
  | [] => by simp
  | a :: l => by
    have := flat_len hf l
    have := hf a
    rw [List.flatMap_cons, List.length_append, List.length_cons]
    omega
theorem stats_fine {li now made : Int} {ps : List Pod} (h : PodsOk li now made ps) (l1 : li ≤ 1000) : S.Fine (stats ps now) := by
  intro x hx
  unfold stats at hx
  obtain ⟨id, hid, hx⟩ := List.mem_flatMap.1 hx
  obtain ⟨p, hp, rfl⟩ := List.mem_map.1 hx
  obtain ⟨hp, he⟩ := List.mem_filter.1 hp
  have he' : p.id = id := by simpa using he
  obtain ⟨a, b, c, d⟩ := h.pod p hp
  exact ⟨by show 0 ≤ id; omega, by show 0 ≤ now - p.since; omega, by show 0 ≤ p.busy * 1000; omega, by show p.busy * 1000 ≤ 1000000; omega⟩
theorem spread_bd {l : List S.Stat} (h : S.Fine l) {r : Int} (r0 : 0 ≤ r) (r1 : r ≤ 1000) : 0 ≤ S.spread l r ∧ S.spread l r ≤ 1000000000 := by
  obtain ⟨s0, s1⟩ := S.sum_bd l h
  unfold S.spread
  split
  · omega
  · rename_i hl
    have hm : 0 ≤ S.sum l * r := Int.mul_nonneg s0 r0
    refine ⟨Int.ediv_nonneg hm (by omega), ?_⟩
    refine Int.ediv_le_of_le_mul (by omega) ?_
    have h1 : S.sum l * r ≤ (l.length * 1000000) * 1000 := Int.mul_le_mul s1 r1 r0 (by omega)
    omega
theorem ready_len (ps : List Pod) : (M.ready ps).length ≤ M.count ps := by
  unfold M.ready M.count
  rw [List.length_map]
  induction ps with
  | nil => simp
  | cons p l ih =>
    rw [List.filter_cons, List.filter_cons]
    by_cases h2 : p.st = 2
    · have e1 : (p.st == 2) = true := by simp [h2]
      have e2 : (p.st != 3) = true := by simp [h2]
      rw [e1, e2]
      simp; omega
    · have e1 : (p.st == 2) = false := by simp [h2]
      rw [e1]
      split
      · exact absurd ‹false = true› (by simp)
      · split
        · simp; omega
        · exact ih
theorem scrape_bd {li now made : Int} {ps : List Pod} (h : PodsOk li now made ps) (l1 : li ≤ 1000) {w : Int} (w0 : 0 ≤ w) (w1 : w ≤ 100) : 0 ≤ scrape ps now w ∧ scrape ps now w ≤ 1125899906842624 := by
  have h1 := ready_len ps
  have h2 := h.cnt
  obtain ⟨h3, h4⟩ := spread_bd (stats_fine h l1) (r := ((M.ready ps).length : Int)) (by omega) (by omega)
  unfold scrape
  omega
theorem late_st {now : Int} : ∀ (l : List (Int × Int)) (rs : List Req), (∀ r, r ∈ rs → 0 ≤ r.st ∧ r.st ≤ 6) → ∀ r, r ∈ l.foldl (fun rs x => stand now 4 rs x.1) rs → 0 ≤ r.st ∧ r.st ≤ 6
  | [], _, h => h
  | x :: l, rs, h => late_st l _ (stand_st h (by decide) (by decide))
theorem late_len {now : Int} : ∀ (l : List (Int × Int)) (rs : List Req), (l.foldl (fun rs x => stand now 4 rs x.1) rs).length = rs.length
  | [], _ => rfl
  | x :: l, rs => by rw [List.foldl_cons, late_len l, stand_len]
theorem Inv.tick1 {li rd : Int} {s : Sys} (h : Inv li s) (l1 : li ≤ 1000) : Inv li (tick1 rd s) ∧ (tick1 rd s).hl < (tick1 rd s).now ∧ (tick1 rd s).made ≤ 100 * (tick1 rd s).now ∧ (tick1 rd s).now = s.now + 1 ∧ (tick1 rd s).rs.length = s.rs.length := by
  have hn := h.now0
  have hp := (h.pods.later (now' := s.now + 1) (by omega)).ripe (s.now + 1) rd
  have hd := List.dropWhile_sublist (p := B.late (s.now + 1) 60) (l := s.q)
  have hdl := hd.length_le
  have hload : V.load (s.pods.map (M.ripe (s.now + 1) rd)) + (s.q.dropWhile (B.late (s.now + 1) 60)).length ≤ ((s.q.takeWhile (B.late (s.now + 1) 60)).foldl (fun rs x => stand (s.now + 1) 4 rs x.1) s.rs).length := by
    rw [load_ripe, late_len]
    have := h.load
    omega
  have hql := h.qlen
  have hqat : ∀ x, x ∈ s.q.dropWhile (B.late (s.now + 1) 60) → (0 ≤ x.1 ∧ x.1 < ((s.q.takeWhile (B.late (s.now + 1) 60)).foldl (fun rs x => stand (s.now + 1) 4 rs x.1) s.rs).length) ∧ (0 ≤ x.2 ∧ x.2 ≤ s.now + 1) := by
    intro x hx
    rw [late_len]
    have := h.qat x (hd.subset hx)
    omega
  have hrst := late_st (now := s.now + 1) (s.q.takeWhile (B.late (s.now + 1) 60)) s.rs h.rst
  have hqv := h.ql
  obtain ⟨d1, d2, d3, d4, d5, d6, d7, d8⟩ := h.dec
  have hz := h.zs
  have hlo := h.lost
  have hm := h.pods.made
  have hb := scrape_bd hp l1 (w := ((s.q.dropWhile (B.late (s.now + 1) 60)).length : Int)) (by omega) (by omega)
  unfold V.tick1
  simp only
  split
  · rename_i hlost
    refine ⟨⟨by show 0 ≤ s.now + 1; omega, hp, hload, Nat.le_trans hdl hql, hqat, by show s.ql ≤ s.now + 1; omega, hrst, ⟨d1, d2, ⟨d3.1, by show s.nw ≤ s.now + 1; omega⟩, fun x hx => by have := d4 x hx; exact ⟨⟨this.1.1, by show x.1 ≤ s.now + 1; omega⟩, this.2⟩, ⟨d5.1, by show s.hl ≤ s.now + 1; omega⟩, ⟨d6.1, by show s.si ≤ s.now + 1; omega⟩, d7, ⟨d8.1, by show s.dl ≤ s.now + 1; omega⟩⟩, ⟨by show 0 ≤ s.lost - 1; omega, by show s.lost - 1 ≤ 1000; omega⟩, ⟨hz.1, by show s.zs ≤ s.now + 1; omega⟩, h.want⟩, ?_, ?_, rfl, late_len ..⟩
    · show s.hl < s.now + 1; omega
    · show s.made ≤ 100 * (s.now + 1); omega
  · rename_i hlost
    have hw0 := d1.put (t := s.now + 1) (by decide) (by omega) (by omega) hb.1 hb.2
    have hw1 := d2.put (t := s.now + 1) (by decide) (by omega) (by omega) hb.1 hb.2
    refine ⟨⟨by show 0 ≤ s.now + 1; omega, hp, hload, Nat.le_trans hdl hql, hqat, by show s.ql ≤ s.now + 1; omega, hrst, ⟨hw0, hw1, ⟨by show -1 ≤ s.now + 1; omega, Int.le_refl _⟩, fun x hx => by have := d4 x hx; exact ⟨⟨this.1.1, by show x.1 ≤ s.now + 1; omega⟩, this.2⟩, ⟨d5.1, by show s.hl ≤ s.now + 1; omega⟩, ⟨d6.1, by show s.si ≤ s.now + 1; omega⟩, d7, ⟨d8.1, by show s.dl ≤ s.now + 1; omega⟩⟩, hlo, ⟨hz.1, by show s.zs ≤ s.now + 1; omega⟩, h.want⟩, ?_, ?_, rfl, late_len ..⟩
    · show s.hl < s.now + 1; omega
    · show s.made ≤ 100 * (s.now + 1); omega
theorem limit_bd {w r : Int} (w0 : 0 ≤ w) (r0 : 0 ≤ r) (r1 : r ≤ 100) : 0 ≤ P.limit w r ∧ P.limit w r ≤ 1000 := by
  unfold P.limit
  omega
theorem mode_bd {since most now : Int} {o : Bool} (n0 : 0 ≤ now) (h1 : -1 ≤ since ∧ since ≤ now) (h2 : 0 ≤ most ∧ most ≤ 1000000) : (-1 ≤ (P.nextMode since most now o).1 ∧ (P.nextMode since most now o).1 ≤ now) ∧ (0 ≤ (P.nextMode since most now o).2 ∧ (P.nextMode since most now o).2 ≤ 1000000) := by
  unfold P.nextMode
  split
  · split <;> simp only <;> omega
  · split <;> simp only <;> omega
theorem keep_bd {since most want : Int} (h2 : 0 ≤ most ∧ most ≤ 1000000) (h3 : 0 ≤ want ∧ want ≤ 1000000) : 0 ≤ (P.keep since most want).1 ∧ (P.keep since most want).1 ≤ 1000000 := by
  unfold P.keep
  split <;> simp only <;> omega
theorem wantOf_nn {m : Int} (m0 : 0 ≤ m) : 0 ≤ P.wantOf m := by
  have := (P.up_bd (a := m) (b := 7000) m0 (by omega)).1
  unfold P.wantOf
  omega
theorem nextD_ok {b0 b1 : List Bk} {nw : Int} {wl : List Dl.Wish} {hl si mo dl now : Int} (bu li : Int) (h : DecOk b0 b1 nw wl hl si mo dl now) (hh : hl < now) (n0 : 0 ≤ now) {r : Int} (r0 : 0 ≤ r) (r1 : r ≤ 100) :
    DecOk b0 b1 nw (De.nextD bu li b0 b1 wl si mo now r).l now (De.nextD bu li b0 b1 wl si mo now r).since (De.nextD bu li b0 b1 wl si mo now r).most now now ∧ (0 ≤ (De.nextD bu li b0 b1 wl si mo now r).want ∧ (De.nextD bu li b0 b1 wl si mo now r).want ≤ 100) := by
  have f0 := h.w0.fine (by decide) (by decide)
  have f1 := h.w1.fine (by decide) (by decide)
  obtain ⟨m0, _⟩ := De.meanB_bd (n := 60) (t := now) f0
  obtain ⟨q0, _⟩ := De.meanB_bd (n := 6) (t := now) f1
  have a0 := limit_bd (wantOf_nn m0) r0 r1
  have a1 := limit_bd (wantOf_nn q0) r0 r1
  obtain ⟨k1, k2⟩ := mode_bd (o := P.over (P.wantOf (R.meanB 6 now b1)) r) n0 h.siB h.moB
  obtain ⟨n1, hn1⟩ : ∃ n1, (if 0 ≤ (P.nextMode si mo now (P.over (P.wantOf (R.meanB 6 now b1)) r)).1 then max (P.limit (P.wantOf (R.meanB 60 now b0)) r) (P.limit (P.wantOf (R.meanB 6 now b1)) r) else P.limit (P.wantOf (R.meanB 60 now b0)) r) = n1 := ⟨_, rfl⟩
  have b : 0 ≤ n1 ∧ n1 ≤ 1000 := by
    rw [← hn1]
    split <;> omega
  have hl' : ∀ x, x ∈ G.kept (Dl.far now) wl ++ [(now, n1)] → (0 ≤ x.1 ∧ x.1 ≤ now) ∧ (0 ≤ x.2 ∧ x.2 ≤ 1000000) := by
    intro x hx
    rcases List.mem_append.1 hx with hx | hx
    · exact h.wlB x (List.mem_filter.1 hx).1
    · rw [List.mem_singleton.1 hx]
      exact ⟨⟨n0, Int.le_refl _⟩, by simp only; omega, by simp only; omega⟩
  have hm := Dl.mostD_bd now _ fun x hx => (hl' x hx).2
  have k3 := keep_bd (since := (P.nextMode si mo now (P.over (P.wantOf (R.meanB 6 now b1)) r)).1) k2 hm
  have hlen : (G.kept (Dl.far now) wl).length ≤ wl.length := List.length_filter_le _ _
  have h5 := h.hlB
  have el : (De.nextD bu li b0 b1 wl si mo now r).l = G.kept (Dl.far now) wl ++ [(now, n1)] := by rw [← hn1]; rfl
  have em : (De.nextD bu li b0 b1 wl si mo now r).most = (P.keep (P.nextMode si mo now (P.over (P.wantOf (R.meanB 6 now b1)) r)).1 (P.nextMode si mo now (P.over (P.wantOf (R.meanB 6 now b1)) r)).2 (Dl.mostD now (G.kept (Dl.far now) wl ++ [(now, n1)]))).1 := by rw [← hn1]; rfl
  refine ⟨⟨h.w0, h.w1, h.nwB, by rw [el]; exact hl', ⟨by rw [el]; simp; omega, Int.le_refl _⟩, k1, by rw [em]; exact k3, ⟨n0, Int.le_refl _⟩⟩, ?_⟩
  show 0 ≤ max (min _ 100) 0 ∧ max (min _ 100) 0 ≤ 100
  omega
theorem Inv.tick2 {bu li : Int} {s : Sys} (h : Inv li s) (hh : s.hl < s.now) : Inv li (tick2 bu li s) := by
  have h1 := ready_len s.pods
  have h2 := h.pods.cnt
  obtain ⟨d, w⟩ := nextD_ok bu li h.dec hh h.now0 (r := ((M.ready s.pods).length : Int)) (by omega) (by omega)
  have hz := h.zs
  have hn := h.now0
  refine ⟨h.now0, h.pods, h.load, h.qlen, h.qat, h.ql, h.rst, d, h.lost, ?_, ?_⟩
  · show -1 ≤ P.nextState s.zs s.now _ ∧ P.nextState s.zs s.now _ ≤ s.now
    unfold P.nextState
    split
    · split <;> omega
    · omega
  · show 0 ≤ P.wantAt _ _ _ _ _ _ _ ∧ P.wantAt _ _ _ _ _ _ _ ≤ 1000000
    unfold P.wantAt
    split
    · omega
    · split <;> omega
theorem Inv.tick3 {li : Int} {s : Sys} (h : Inv li s) (l0 : 0 ≤ li) (hm : s.made ≤ 100 * s.now) : Inv li (tick3 s) := by
  obtain ⟨h1, h2⟩ := h.pods.scale h.now0 l0 (min s.want 100).toNat (by omega) hm
  have h3 := h.load
  have h4 : V.load (M.scale (min s.want 100).toNat s.now s.pods s.made).1 + s.q.length ≤ s.rs.length := by omega
  exact ⟨h.now0, h1, h4, h.qlen, h.qat, h.ql, h.rst, h.dec, h.lost, h.zs, h.want⟩
theorem Inv.tick {bu li rd : Int} {s : Sys} (h : Inv li s) (l0 : 0 ≤ li) (l1 : li ≤ 1000) : Inv li (tick bu li rd s) := by
  obtain ⟨h1, h2, h3, _⟩ := h.tick1 (rd := rd) l1
  exact ((h1.tick2 (bu := bu) h2).tick3 l0 h3).sent
theorem Inv.ticks {bu li rd : Int} (l0 : 0 ≤ li) (l1 : li ≤ 1000) : ∀ (n : Nat) {s : Sys}, Inv li s → Inv li (ticks bu li rd n s)
  | 0, _, h => h
  | n + 1, _, h => Inv.ticks l0 l1 n (h.tick l0 l1)
theorem Inv.new {bu ini li : Int} (i0 : 0 ≤ ini) (i1 : ini ≤ 100) (l0 : 0 ≤ li) : Inv li (new bu ini li) := by
  have hp : PodsOk li 0 0 [] := ⟨by decide, List.nodup_nil, fun p hp => by simp at hp, by decide, by decide⟩
  obtain ⟨h1, h2⟩ := hp.scale (by decide) l0 ini.toNat (by omega) (by decide)
  refine ⟨Int.le_refl 0, h1.ripe 0 0, ?_, by show 0 ≤ 100; decide, fun x hx => by simp [V.new] at hx, by show (-9223372036854775808 : Int) ≤ 0; decide, fun r hr => by simp [V.new] at hr, ⟨⟨List.Pairwise.nil, fun x hx => by simp [V.new] at hx⟩, ⟨List.Pairwise.nil, fun x hx => by simp [V.new] at hx⟩, ⟨Int.le_refl _, by show (-1 : Int) ≤ 0; decide⟩, fun x hx => by simp [V.new] at hx, ⟨Int.le_refl _, Int.le_refl _⟩, ⟨Int.le_refl _, by show (-1 : Int) ≤ 0; decide⟩, ⟨Int.le_refl _, by show (0 : Int) ≤ 1000000; decide⟩, ⟨Int.le_refl _, Int.le_refl _⟩⟩, ⟨Int.le_refl _, by show (0 : Int) ≤ 1000; decide⟩, ⟨Int.le_refl _, by show (-1 : Int) ≤ 0; decide⟩, ⟨i0, by show ini ≤ 1000000; omega⟩⟩
  show V.load ((M.scale ini.toNat 0 [] 0).1.map (M.ripe 0 0)) + ((0 : Nat) : Int) ≤ ((0 : Nat) : Int)
  rw [load_ripe]
  have : V.load [] = 0 := rfl
  omega
end Go.Proofs.YtdgphoemjeakaaaGreatDoor.V
