/- slices.Clone, subset.Of where all serve, pick.Least by numbers. The whole service: sent. The whole service: arrive. The whole service: finish, Requests. -/
import Derived.Test.YtdgphoemjeakaaaGreatDoorQ12
import Derived.Test.YtdgphoemjeakaaaGreatDoorQ13
import Derived.Test.YtdgphoemjeakaaaGreatDoorQ04
import Derived.Test.YtdgphoemjeakaaaGreatDoorQ02
/-! slices.Clone, subset.Of where all serve, pick.Least by numbers. -/
namespace Go.Proofs.YtdgphoemjeakaaaGreatDoor.Y
open Go.RowKit Go.Proofs.YtdgphoemjeakaaaGreatDoor Go.Proofs.YtdgphoemjeakaaaGreatDoor.K Go.Proofs.YtdgphoemjeakaaaGreatDoor.L Go.Proofs.YtdgphoemjeakaaaGreatDoor.Fl
set_option maxRecDepth 100000

theorem info141 : (Tryz.prog.info? 141).map (fun i => (i.zero, i.size, i.bytes)) = some (some (.complex .f64 0 0), 1, 16) := by kernel_rfl

/-- append of nothing. -/
theorem run_app0 {P : Program} (w : World) (t ty e : TypeId) (i : TypeInfo) (ht : P.underlying t = some (.slice e)) (hi : P.info? e = some i) (b : Option Addr) (a : Addr) (c : Nat) :
    (Builtin.append_ #[t, t] ty #[.slice b 0 0, .slice (some a) 0 c]).run P w = .ok (.slice b 0 0) w := by
  have hf := run_firstCells_some (P := P) w i.size 0 a 0 c [] (by simp) (by simp)
  cases b <;> simp [Builtin.append_, run_underlying ht, sizeOf, typeInfo, hi, Builtin.lenOf, hf, storeCells]
theorem wpList_app0 {P : Program} (w : World) {ops : Array Oper} {rest : List Oper} {o : Oper} {a : Act} {Q : Exit → Act → World → Prop} (hgd : o.guard = none) (s x : Operand) (t : TypeId)
    (ho : o.op = .call { callee := .builtin .append, args := #[s, x], argTypes := #[t, t] })
    (e : TypeId) (i : TypeInfo) (ht : P.underlying t = some (.slice e)) (hi : P.info? e = some i)
    (b : Option Addr) (hs : a.eval s = .slice b 0 0) (ad : Addr) (c : Nat) (hx : a.eval x = .slice (some ad) 0 c)
    (h : wpList P ops Q rest (a.put o.dst (.slice b 0 0)) w) : wpList P ops Q (o :: rest) a w := by
  have hr := run_app0 (P := P) w t o.type e i ht hi b ad c
  refine wpList_plain hgd fun K hK' => ?_
  unfold Oper.wp execOp
  simp only [ho, resolve, invoke, builtin, Sem.run_bind, Sem.run_pure, Result.andThen_ok, List.map_toArray, List.map_cons, List.map_nil, hs, hx, hr]
  exact hK' _ _ h

theorem nil76 (w : World) : (binOp .eql 76 (.slice none 0 0) (.slice none 0 0)).run Tryz.prog w = .ok (.bool true) w := by kernel_rfl
theorem some76 (a : Addr) (n c : Nat) (w : World) : (binOp .eql 76 (.slice (some a) n c) (.slice none 0 0)).run Tryz.prog w = .ok (.bool false) w := by kernel_rfl
theorem nil45 (w : World) : (binOp .eql 45 (.slice none 0 0) (.slice none 0 0)).run Tryz.prog w = .ok (.bool true) w := by kernel_rfl
theorem some45 (a : Addr) (n c : Nat) (w : World) : (binOp .eql 45 (.slice (some a) n c) (.slice none 0 0)).run Tryz.prog w = .ok (.bool false) w := by kernel_rfl
attribute [local go_sem] nil76 some76 nil45 some45
theorem new_own (w : World) (e : TypeId) (size : Nat) : Own (w.alloc (.cells #[] e)) (New w) e size (.slice (some ⟨w.heap.size, 0, none⟩) 0 0) 0 [] :=
  ⟨by simp, .inr ⟨w.heap.size, 0, 0, #[], rfl, Nat.le_refl _, Blk.new w #[] e, Nat.le_refl _, Nat.zero_le _, by simp, by simp⟩⟩
theorem own_news {w : World} {S : Nat → Prop} {e : TypeId} {size n g o cap : Nat} {xs : List Value} (h : Own w S e size (.slice (some ⟨g, o, none⟩) n cap) n xs) : ∀ j u, xs[j]? = some u → w.cell? ((⟨g, o, none⟩ : Addr).add j) = some u := by
  intro j u hu
  have hj : j < n * size := by rw [← h.len]; exact (List.getElem?_eq_some_iff.1 hu).1
  rw [Addr.add_lit, h.cellAt j hj]
  exact hu
set_option maxHeartbeats 1000000 in
theorem clone_ints (w : World) (S : Nat → Prop) (v : Value) (n : Nat) (xs : List Value) (own : Own w S 3 1 v n xs) (hn : n ≤ 1099511627776) (h1 : ∀ u ∈ xs, u.oneCell' = true) :
    Calls Tryz.prog 108 #[v] w fun e w' => ∃ v', e = .returned v' ∧ Own w' (New w) 3 1 v' n xs ∧ Chg No w w' := by
  obtain ⟨i0, hi, hz0, hz1, hz2⟩ := info_parts A.info3
  have HX := Lib.hid h1
  have hl := own.len
  rcases own.form with ⟨rfl, rfl, rfl⟩ | ⟨g, o, cap, rfl, hS, hg, hc1, hc2⟩
  · clear own h1 hl
    go_enter Tryz.func108, Tryz.ntmps108
    go_wp2
    go_ret
    exact ⟨_, rfl, Own.nil _ _ _ _, Chg.refl _ _⟩
  · have HO := Lib.hid (own.alloc (.cells #[] 3))
    have HN := Lib.hid (new_own w 3 1)
    clear own h1
    by_cases h0 : n = 0
    · subst h0
      obtain rfl : xs = [] := List.eq_nil_of_length_eq_zero (by simpa using hl)
      go_enter Tryz.func108, Tryz.ntmps108
      go_wp2_with (at_builtin; refine wpList_app0 _ rfl (.tmp 5) (.tmp 6) 76 rfl 3 i0 Tryz.underlying76 hi (some ⟨w.heap.size, 0, none⟩) (by simp [Act.eval]) ⟨g, o, none⟩ cap (by simp [Act.eval]) ?_)
      go_ret
      exact ⟨_, rfl, HN.out, (Chg.refl No w).alloc _⟩
    · go_enter Tryz.func108, Tryz.ntmps108
      go_wp2_with (at_builtin; refine wpList_app _ rfl (.tmp 5) (.tmp 6) 76 rfl (New w) 3 i0 _ 1 8 Tryz.underlying76 hi hz0 hz1 hz2 rfl (.slice (some ⟨w.heap.size, 0, none⟩) 0 0) 0 [] (by simp [Act.eval]) HN.out ⟨g, o, none⟩ n cap xs (by simp [Act.eval]) (by omega) hl (own_news HO.out) HX.out (by simp only [maxLen]; omega) (by omega) ?_; intro g2 o2 c2 w' ho' hc')
      go_ret
      obtain ⟨x1, x2⟩ := fresh_app (Chg.refl No w) ho' hc'
      simp only [Nat.zero_add, List.nil_append] at x1
      exact ⟨_, rfl, x1, x2⟩
set_option maxHeartbeats 1000000 in
theorem clone_reqs (w : World) (S : Nat → Prop) (v : Value) (n : Nat) (xs : List Value) (own : Own w S 48 4 v n xs) (hn : n ≤ 1099511627776) (h1 : ∀ u ∈ xs, u.oneCell' = true) :
    Calls Tryz.prog 37 #[v] w fun e w' => ∃ v', e = .returned v' ∧ Own w' (New w) 48 4 v' n xs ∧ Chg No w w' := by
  obtain ⟨i0, hi, hz0, hz1, hz2⟩ := info_parts info48
  have HX := Lib.hid h1
  have hl := own.len
  rcases own.form with ⟨rfl, rfl, rfl⟩ | ⟨g, o, cap, rfl, hS, hg, hc1, hc2⟩
  · clear own h1 hl
    go_enter Tryz.func37, Tryz.ntmps37
    go_wp2
    go_ret
    exact ⟨_, rfl, Own.nil _ _ _ _, Chg.refl _ _⟩
  · have HO := Lib.hid (own.alloc (.cells #[] 48))
    have HN := Lib.hid (new_own w 48 4)
    clear own h1
    by_cases h0 : n = 0
    · subst h0
      obtain rfl : xs = [] := List.eq_nil_of_length_eq_zero (by simpa using hl)
      go_enter Tryz.func37, Tryz.ntmps37
      go_wp2_with (at_builtin; refine wpList_app0 _ rfl (.tmp 5) (.tmp 6) 45 rfl 48 i0 Tryz.underlying45 hi (some ⟨w.heap.size, 0, none⟩) (by simp [Act.eval]) ⟨g, o, none⟩ cap (by simp [Act.eval]) ?_)
      go_ret
      exact ⟨_, rfl, HN.out, (Chg.refl No w).alloc _⟩
    · go_enter Tryz.func37, Tryz.ntmps37
      go_wp2_with (at_builtin; refine wpList_app _ rfl (.tmp 5) (.tmp 6) 45 rfl (New w) 48 i0 _ 4 32 Tryz.underlying45 hi hz0 hz1 hz2 rfl (.slice (some ⟨w.heap.size, 0, none⟩) 0 0) 0 [] (by simp [Act.eval]) HN.out ⟨g, o, none⟩ n cap xs (by simp [Act.eval]) (by omega) hl (own_news HO.out) HX.out (by simp only [maxLen]; omega) (by omega) ?_; intro g2 o2 c2 w' ho' hc')
      go_ret
      obtain ⟨x1, x2⟩ := fresh_app (Chg.refl No w) ho' hc'
      simp only [Nat.zero_add, List.nil_append] at x1
      exact ⟨_, rfl, x1, x2⟩

set_option maxHeartbeats 1000000 in
theorem subset_all (w : World) (S : Nat → Prop) (v : Value) (n : Nat) (xs : List Value) (own : Own w S 3 1 v n xs) (hn : n ≤ 1099511627776) (h1 : ∀ u ∈ xs, u.oneCell' = true) :
    Calls Tryz.prog 75 #[v, .int .i64 0] w fun e w' => ∃ v', e = .returned v' ∧ Own w' (New w) 3 1 v' n xs ∧ Chg No w w' := by
  have HC := Lib.hid (clone_ints w S v n xs own hn h1)
  clear own h1
  go_enter Tryz.func75, Tryz.ntmps75
  go_wp2_with fail
  refine HC.out.mono ?_
  rintro e w1 ⟨v', rfl, ho, hc⟩
  have HO := Lib.hid ho
  have H1 := Lib.hid hc
  clear ho hc
  go_wp2_with fail
  go_ret
  exact ⟨_, rfl, HO.out, H1.out⟩

/-- pick.Least, by numbers. -/
theorem least_eq (bs : List Int) (m : Int) (hb : ∀ b, b ∈ bs → In b) : ∀ (k : Nat), k ≤ bs.length → Pk.leastTo (bs.map fun b => (Fl.fl b, Fl.fl 0)) m k = V.least bs m k
  | 0, _ => rfl
  | k + 1, hk => by
    have ih := least_eq bs m hb k (by omega)
    have g : ∀ j, j < bs.length → (bs.map fun b => (Fl.fl b, Fl.fl 0)).getD j (0, 0) = (Fl.fl (bs.getD j 0), Fl.fl 0) := by
      intro j hj
      simp [List.getD, List.getElem?_eq_getElem hj]
    have hi : ∀ j, j < bs.length → In (bs.getD j 0) := by
      intro j hj
      simp only [List.getD, List.getElem?_eq_getElem hj, Option.getD_some]
      exact hb _ (List.getElem_mem hj)
    obtain ⟨b1, b2⟩ := V.least_bd bs m k
    have hk' := hi k (by omega)
    have w0 : whole (Fl.fl 0) = 0 := whole_fl (by omega) (by omega)
    rw [Pk.leastTo, V.least, ih, g k (by omega), whole_fl hk'.1 hk'.2]
    simp only
    by_cases h0 : V.least bs m k < 0
    · simp only [h0, true_or, and_true]
    · have hq := hi (V.least bs m k).toNat (by omega)
      rw [g _ (by omega)]
      have e : less (Fl.fl (bs.getD k 0)) (Fl.fl 0) (Fl.fl (bs.getD (V.least bs m k).toNat 0)) (Fl.fl 0) = decide (bs.getD k 0 < bs.getD (V.least bs m k).toNat 0) := by
        unfold less
        rw [whole_fl hk'.1 hk'.2, whole_fl hq.1 hq.2, w0]
        split
        · rename_i h; rw [h]; simp
        · rfl
      rw [e]
      simp only [decide_eq_true_eq]
set_option maxHeartbeats 1000000 in
theorem least_nil (m : Int) (w : World) : Calls Tryz.prog 78 #[.slice none 0 0, .int .i64 m] w fun e w' => e = .returned (.int .i64 (-1)) ∧ w = w' := by
  go_enter Tryz.func78, Tryz.ntmps78
  go_wp2_with fail
  go_loop [5, 10] (fun s i => s = .int .i64 (-1) ∧ i = .int .i64 0) (fun _ _ => 0)
  case atStart => exact ⟨rfl, rfl⟩
  case round =>
    obtain ⟨rfl, rfl⟩ := hrel
    go_wp2
    go_ret
    exact ⟨rfl, rfl⟩
theorem least_any (w : World) (S : Nat → Prop) (v : Value) (bs : List Int) (own : Own w S 141 1 v bs.length (bs.map fun b => .complex .f64 (Fl.fl b) (Fl.fl 0))) (hb : ∀ b, b ∈ bs → In b) (hn : bs.length ≤ 1000000) (m : Int) :
    Calls Tryz.prog 78 #[v, .int .i64 m] w fun e w' => e = .returned (.int .i64 (V.least bs m bs.length)) ∧ w = w' := by
  rcases own.form with ⟨rfl, h0, _⟩ | ⟨g, o, cap, rfl, _⟩
  · rw [h0]
    exact least_nil m w
  · have h := Pk.least_some g o cap (bs.map fun b => (Fl.fl b, Fl.fl 0)) m w (by rw [List.length_map]; omega) (fun k hk => by
      rw [List.length_map] at hk
      rw [own.cellAt k (by omega)]
      simp [List.getD, List.getElem?_eq_getElem hk])
    rw [List.length_map, least_eq bs m hb _ (Nat.le_refl _)] at h
    exact h
end Go.Proofs.YtdgphoemjeakaaaGreatDoor.Y

/-! The whole service: sent. -/
namespace Go.Proofs.YtdgphoemjeakaaaGreatDoor.Y
open Go.Proofs.YtdgphoemjeakaaaGreatDoor.Rg
open Go.Proofs.YtdgphoemjeakaaaGreatDoor.Me
open Go.RowKit Go.Proofs.YtdgphoemjeakaaaGreatDoor Go.Proofs.YtdgphoemjeakaaaGreatDoor.K Go.Proofs.YtdgphoemjeakaaaGreatDoor.P Go.Proofs.YtdgphoemjeakaaaGreatDoor.U Go.Proofs.YtdgphoemjeakaaaGreatDoor.R
set_option maxRecDepth 100000

/-- The service's cells in a state. -/
abbrev sca (a : At) (rv tv : Value) (s : V.Sys) : Array Value := sc a.bu a.ini a.li a.rd a.g rv tv s
theorem sc20 (a : At) (rv tv : Value) (s : V.Sys) : (sca a rv tv s)[20]? = some (.int .i64 s.now) := by kernel_rfl
theorem sc21 (a : At) (rv tv : Value) (s : V.Sys) : (sca a rv tv s)[21]? = some (.slice (some ⟨a.g, 0, none⟩) 3 3) := by kernel_rfl
theorem sc22 (a : At) (rv tv : Value) (s : V.Sys) : (sca a rv tv s)[22]? = some rv := by kernel_rfl
theorem sc30 (a : At) (rv tv : Value) (s : V.Sys) : (sca a rv tv s)[30]? = some (.bool s.proxy) := by kernel_rfl
theorem sc18 (a : At) (rv tv : Value) (s : V.Sys) : (sca a rv tv s)[18]? = some (.int .i64 0) := by kernel_rfl
theorem sc14 (a : At) (rv tv : Value) (s : V.Sys) : (sca a rv tv s)[14]? = some (.int .i64 a.li) := by kernel_rfl
section
variable {a : At} {S : Nat → Prop} {w0 wr wk w' : World} {cs cs' : Array Value} {rv rv' tv tv' : Value} {tn tn' : Nat} {tx tx' : List Value} {s s' : V.Sys}
/-- From here on, what is owned now. -/
theorem St.base (h : St a S w0 cs rv tv tn tx s wr) (c : Chg No wr wk) : St a (K.nx S w0 wr) wk cs rv tv tn tx s wk := St.start (Y2.good.kept h.1 c)
/-- Back to the beginning. -/
theorem St.rebase (h0 : St a S w0 cs rv tv tn tx s wr) (c : Chg No wr wk) (h : St a (K.nx S w0 wr) wk cs' rv' tv' tn' tx' s' w') : St a S w0 cs' rv' tv' tn' tx' s' w' := by
  have h1 := h0.2.size
  have h2 := c.size
  refine ⟨Y2.wide.mono h.1 (fun k hk => ?_) fun _ hk => hk.2, (h0.2.trans c.of_no).step h.2 fun k hk hT => hT.1.resolve_right (by omega)⟩
  obtain ⟨h3 | h3, h4⟩ := hk
  · exact ⟨h3.1, h4⟩
  · exact ⟨.inr (by omega), h4⟩
end
theorem take_snoc {α β : Type} (f : α → β) {l : List α} {n : Nat} {x : α} (h : l[n]? = some x) : (l.take (n + 1)).map f = (l.take n).map f ++ [f x] := by
  rw [List.take_add_one, h, List.map_append]; rfl
theorem pods_small {li now made : Int} {ps : List M.Pod} {n : Nat} (h : V.PodsOk li now made ps) (hl : V.load ps ≤ n) (hn : n ≤ 1000000) (l1 : li ≤ 1000) (n1 : now ≤ 1000000) : M.Ok ps ∧ ps.length ≤ 1000100 ∧ ∀ q, q ∈ ps → q.busy < 1099511627776 := by
  have := h.len
  refine ⟨⟨by omega, fun q hq => ?_⟩, by omega, fun q hq => ?_⟩
  · obtain ⟨a, b, c, d⟩ := h.pod q hq
    omega
  · obtain ⟨a, b, c, d⟩ := h.pod q hq
    omega
theorem busyAt_in {li now made : Int} {ps : List M.Pod} (h : V.PodsOk li now made ps) (l0 : 0 ≤ li) (l1 : li ≤ 1000) (id : Int) : L.In (V.busyAt ps id) := by
  unfold V.busyAt
  split
  · exact ⟨Int.le_refl _, by omega⟩
  · rename_i q hq
    obtain ⟨a, b, c, d⟩ := h.pod q (List.mem_of_find?_eq_some hq)
    exact ⟨b.1, by omega⟩

set_option maxHeartbeats 8000000 in
theorem sent_any {a : At} {S : Nat → Prop} {w0 : World} {rv tv : Value} {tn : Nat} {tx : List Value} {s : V.Sys} {w : World} (h : St a S w0 (sca a rv tv s) rv tv tn tx s w) (ok : V.SendOk a.li s.now s.made 100 s.q s.pods s.rs) (n1 : s.now ≤ 1000000) (hr : s.rs.length ≤ 1000000) (l0 : 0 ≤ a.li) (l1 : a.li ≤ 1000) :
    Calls Tryz.prog 51 #[.pointer (some ⟨a.p, 0, none⟩)] w fun e w' => e = .returned (.tuple #[]) ∧ St a S w0 (sca a rv tv (V.sent a.li s)) rv tv tn tx (V.sent a.li s) w' := by
  have H := Lib.hid h
  have HOK := Lib.hid ok
  obtain ⟨px, hpx⟩ : ∃ b, s.proxy = b := ⟨_, rfl⟩
  have HPX := Lib.hid hpx
  clear h ok hpx
  go_enter Tryz.func51, Tryz.ntmps51
  go_wp2_with fail
  go_loopg [] s.q.length (fun g wr => ∃ (q : List (Int × Int)) (ps : List M.Pod) (rs : List V.Req), g = q.length ∧ Hid (V.SendOk a.li s.now s.made 100 q ps rs ∧ V.sentGo a.li s.now q ps rs = V.sentGo a.li s.now s.q s.pods s.rs ∧ rs.length = s.rs.length ∧ St a S w0 (sca a rv tv s) rv tv tn tx { s with q := q, pods := ps, rs := rs } wr))
  case atStart => exact ⟨s.q, s.pods, s.rs, rfl, HOK.out, rfl, rfl, H.out⟩
  case round =>
    obtain ⟨q, ps, rs, rfl, HR⟩ := hrel
    have H1 := Lib.hid HR.out.2.2.2
    obtain ⟨OK, hps, hbusy⟩ := pods_small (n := s.rs.length) HR.out.1.pods (by have := HR.out.1.load; have := HR.out.2.2.1; omega) hr l1 n1
    have HPS := Lib.hid hps
    have HBU := Lib.hid hbusy
    have HO2 := Lib.hid OK
    clear OK hps hbusy
    go_wp2_with fail
    refine (waits_any H1.out (sc21 a rv tv s)).mono ?_
    rintro e w1 ⟨rfl, hc1⟩
    have C1 := Lib.hid hc1
    have H2 := Lib.hid (H1.out.no hc1)
    clear H1 hc1
    go_wp2_with fail
    obtain ⟨C, hq, _⟩ := H2.out.queue
    refine (B.all_any w1 C a.q q 100 s.ql hq (by have := HR.out.1.qlen; omega)).mono ?_
    rintro e w2 ⟨v, rfl, ho, hc2⟩
    obtain ⟨va, cap, rfl⟩ := ho.sl
    have H3 := Lib.hid (H2.out.no hc2)
    have C2 := Lib.hid (C1.out.trans hc2)
    clear H2 hq ho hc2 C1
    cases q with
    | nil =>
      go_wp2
      go_end0
      have e1 := HR.out.2.1
      refine ⟨rfl, ?_⟩
      have e2 : V.sent a.li s = { s with q := [], pods := ps, rs := rs } := by
        unfold V.sent
        rw [← e1]
        rfl
      rw [e2]
      exact H3.out
    | cons x q =>
      have k0 : decide (0 < ((q.length + 1 : Nat) : Int)) = true := decide_eq_true (by omega)
      simp only [List.length_cons]
      go_wp2_with fail
      refine (pods_any H3.out (sc21 a rv tv s)).mono ?_
      rintro e w3 ⟨rfl, hc3⟩
      have H4 := Lib.hid (H3.out.no hc3)
      have C3 := Lib.hid (C2.out.trans hc3)
      have HSZ : wr.heap.size ≤ w3.heap.size := C3.out.size
      clear H3 hc3 C2
      go_wp2_with fail
      obtain ⟨C, hl, _⟩ := H4.out.life
      refine (A.ready_any w3 C a.l ps s.made hl (by have := HPS.out; omega)).mono ?_
      rintro e w4 ⟨v4, rfl, ho4, hc4⟩
      have H5 := Lib.hid (H4.out.no hc4)
      have HO4 := Lib.hid ho4
      have HSZ4 : w3.heap.size ≤ w4.heap.size := hc4.size
      have C4 := Lib.hid (C3.out.trans hc4)
      clear H4 hl ho4 hc4 C3
      have HID := Lib.hid (V.ready_len ps)
      have HCN := Lib.hid HR.out.1.pods.cnt
      have HBI := Lib.hid (busyAt_in HR.out.1.pods l0 l1)
      have HST := Lib.hid (V.sendTo_room (ps := ps) (li := a.li))
      have HGO : Hid (V.sentGo a.li s.now (x :: q) ps rs = if V.least ((M.ready ps).map (V.busyAt ps)) a.li (M.ready ps).length < 0 then (x :: q, ps, rs) else V.sentGo a.li s.now q (M.enter ps ((M.ready ps).getD (V.least ((M.ready ps).map (V.busyAt ps)) a.li (M.ready ps).length).toNat 0)).2 (V.fly s.now ((M.ready ps).getD (V.least ((M.ready ps).map (V.busyAt ps)) a.li (M.ready ps).length).toNat 0) rs x.1)) := rfl
      obtain ⟨ids, hids⟩ : ∃ ids, M.ready ps = ids := ⟨_, rfl⟩
      rw [hids] at HO4 HID HGO HST
      clear hids
      have hidl : ids.length ≤ 100 := by have := HID.out; have := HCN.out; omega
      have hone : ∀ u ∈ ids.map (Value.int .i64), u.oneCell' = true := by
        intro u hu
        obtain ⟨i, _, rfl⟩ := List.mem_map.1 hu
        rfl
      have c30 : w4.cell? ⟨a.p, 30, none⟩ = some (.bool px) := by rw [H5.out.blk.cell, sc30, HPX.out]
      have c18 : w4.cell? ⟨a.p, 18, none⟩ = some (.int .i64 0) := by rw [H5.out.blk.cell, sc18]
      obtain ⟨i1, hi1, hy0, hy1, hy2⟩ := info_parts info141
      cases px
      · have H6 := H5
        have C5 := C4
        have HO5 := Lib.hid (HO4.out.mono (T := fun k => wr.heap.size ≤ k) fun k _ hk => Nat.le_trans HSZ hk)
        clear H5 HO4 c18
        generalize w4 = w5 at *
        obtain ⟨va5, cap5, rfl⟩ := HO5.out.sl
        go_wp2_with fail
        clear c30
        have HBY : Hid (∀ wx, St a S w0 (sca a rv tv s) rv tv tn tx { s with q := x :: q, pods := ps, rs := rs } wx → ∀ i, Calls Tryz.prog 77 #[.pointer (some ⟨a.p, 0, none⟩), .int .i64 i] wx fun e w' => e = .returned (.int .i64 (V.busyAt ps i)) ∧ Chg No wx w') := fun wx hx i => busy_any hx (sc21 a rv tv s) (by have := HPS.out; show ps.length ≤ _; omega) i
        go_loopw [3, 30] (fun o i wr => ∃ n : Nat, n ≤ ids.length ∧ i = .int .i64 n ∧ Own wr (New w5) 141 1 o n ((ids.take n).map fun i => Value.complex .f64 (Fl.fl (V.busyAt ps i)) (Fl.fl 0)) ∧ Chg No w5 wr) (fun _ i _ => ids.length - (intOf i).toNat)
        case atStart => exact ⟨0, Nat.zero_le _, rfl, Own.nil _ _ _ _, Chg.refl _ _⟩
        case round =>
          obtain ⟨n, hk, rfl, ho, hc⟩ := hrel
          by_cases hlt : n < ids.length
          · obtain ⟨g5, o5, rfl, hS, hg, hcap, hmax⟩ := HO5.out.some_ (by omega)
            obtain ⟨i, hi⟩ : ∃ i, ids[n]? = some i := ⟨ids[n], List.getElem?_eq_getElem hlt⟩
            rename World => wr2
            have e0 : wr2.cell? ⟨g5, o5 + n, none⟩ = some (.int .i64 i) := by
              rw [(HO5.out.kept hc).cellAt n (by omega), List.getElem?_map, hi]; rfl
            have HT := Lib.hid (take_snoc (fun i => Value.complex .f64 (Fl.fl (V.busyAt ps i)) (Fl.fl 0)) hi)
            have HO6 := Lib.hid ho
            have HC6 := Lib.hid hc
            have H7 := Lib.hid (H6.out.no hc)
            clear ho hc hi hS hmax
            go_wp2_with fail
            refine (HBY.out _ H7.out i).mono ?_
            rintro e w8 ⟨rfl, hc8⟩
            have HO8 := Lib.hid (HO6.out.kept hc8)
            have HC8 := Lib.hid (HC6.out.trans hc8)
            have HB := Lib.hid (HBI.out i)
            clear HO6 HC6 H7 hc8
            generalize V.busyAt ps i = b at *
            go_wp2_with (first | (go_at_call 76; refine (L.of_in b 0 _ HB.out ⟨by omega, by omega⟩).mono ?_; rintro e w' ⟨rfl, rfl⟩) | (at_builtin; refine wpList_app _ rfl _ _ 140 rfl (New w5) 141 i1 _ 1 16 Tryz.underlying140 hi1 hy0 hy1 hy2 rfl _ _ _ rfl (HO8.out.alloc _) ⟨w8.heap.size, 0, none⟩ 1 1 [.complex .f64 (Fl.fl b) (Fl.fl 0)] rfl (by decide) rfl (built_at (by simp)) (by simp [Value.oneCell']) (by simp only [maxLen]; omega) (by omega) ?_; intro g2 o2 c2 w' ho' hc'))
            go_roundw
            case rel =>
              obtain ⟨h1, h2⟩ := fresh_app HC8.out ho' hc'
              exact ⟨n + 1, by omega, by go_num, by rw [HT.out]; exact h1, h2⟩
            case measure => simp [intOf]; omega
          · obtain rfl : n = ids.length := by omega
            rename World => wr2
            rw [List.take_length] at ho
            have H7 := Lib.hid (H6.out.no hc)
            have C7 := Lib.hid (C5.out.trans hc)
            have HO7 := Lib.hid (HO5.out.kept hc)
            have c14 : wr2.cell? ⟨a.p, 14, none⟩ = some (.int .i64 a.li) := by rw [H7.out.blk.cell, sc14]
            have HLE : Hid (∀ v, Own wr2 (New w5) 141 1 v ids.length (ids.map fun i => Value.complex .f64 (Fl.fl (V.busyAt ps i)) (Fl.fl 0)) → Calls Tryz.prog 78 #[v, .int .i64 a.li] wr2 fun e w' => e = .returned (.int .i64 (V.least (ids.map (V.busyAt ps)) a.li ids.length)) ∧ wr2 = w') := fun v hv => by
              have h1 := least_any wr2 (New w5) v (ids.map (V.busyAt ps)) (by rw [List.length_map, List.map_map]; exact hv) (fun b hb => by
                obtain ⟨i, _, rfl⟩ := List.mem_map.1 hb
                exact HBI.out i) (by rw [List.length_map]; omega) a.li
              rw [List.length_map] at h1
              exact h1
            have HO8 := Lib.hid ho
            clear H6 HO5 ho hc
            go_wp2_with fail
            refine (HLE.out _ HO8.out).mono ?_
            rintro e w9 ⟨rfl, rfl⟩
            obtain ⟨kb0, kb1⟩ := V.least_bd (ids.map (V.busyAt ps)) a.li ids.length
            clear HLE HO8 c14 HBY
            generalize hkk : V.least (ids.map (V.busyAt ps)) a.li ids.length = kk at *
            by_cases hk0 : kk < 0
            · have k1 : decide (kk < 0) = true := decide_eq_true hk0
              rw [if_pos hk0] at HGO
              go_wp2
              go_returns
              have e1 := HR.out.2.1
              refine ⟨rfl, ?_⟩
              have e2 : V.sent a.li s = { s with q := x :: q, pods := ps, rs := rs } := by
                unfold V.sent
                rw [← e1, HGO.out]
              rw [e2]
              exact H7.out
            · have k1 : decide (kk < 0) = false := decide_eq_false hk0
              rw [if_neg hk0] at HGO
              obtain ⟨k, rfl⟩ : ∃ k : Nat, kk = k := ⟨kk.toNat, by omega⟩
              rw [Int.toNat_natCast] at HGO HST
              have hkl : k < ids.length := by omega
              obtain ⟨id, hid⟩ : ∃ id, ids.getD k 0 = id := ⟨_, rfl⟩
              have hidk : ids[k]? = some id := by
                rw [← hid]
                simp only [List.getD, List.getElem?_eq_getElem hkl, Option.getD_some]
              rw [hid] at HGO HST
              have hqx := HR.out.1.qat x List.mem_cons_self
              obtain ⟨kx, hkx⟩ : ∃ kx : Nat, x.1 = kx := ⟨x.1.toNat, by omega⟩
              have hkxl : kx < rs.length := by omega
              have hrl : rs.length ≤ 1000000 := by have := HR.out.2.2.1; omega
              have HB7 := Lib.hid (HR.out.2.2.2.base C7.out)
              have hdis : ∀ k, wr.heap.size ≤ k → K.nx S w0 wr k → False := fun k h1 h2 => by have := h2.2; omega
              have HDIS := Lib.hid hdis
              clear hdis H7 hid
              generalize hA : K.nx S w0 wr = A7 at HB7 HDIS
              have HA7 := Lib.hid hA
              clear hA
              obtain ⟨g5, o5, rfl, _, _, _, _⟩ := HO7.out.some_ (by omega)
              go_wp2_with fail
              refine (waits_any HB7.out (sc21 a rv tv s)).mono ?_
              rintro e w10 ⟨rfl, hc10⟩
              have HB8 := Lib.hid (HB7.out.no hc10)
              clear HB7 hc10
              go_wp2_with fail
              obtain ⟨C10, hq10, back10⟩ := HB8.out.queue
              refine (B.take_any w10 C10 a.q x q 100 s.ql hq10 (by have := HR.out.1.qlen; simp only [List.length_cons] at this; omega)).mono ?_
              rintro e w11 ⟨rfl, hq11, hc11⟩
              have HB9 := Lib.hid (back10 q s.ql w11 (QueueR.wide.nx' QueueR.good hq11) hc11)
              clear HB8 hq10 back10 hq11 hc11
              rw [hkx]
              go_wp2_with fail
              refine (stand_any HB9.out (sc22 a rv tv s) (sc20 a rv tv s) kx hkxl (by show rs.length ≤ _; omega) 2).mono ?_
              rintro e w12 ⟨rfl, hs12⟩
              have HB10 := Lib.hid hs12
              clear HB9 hs12
              have hsl : (V.stand s.now 2 rs kx).length = rs.length := V.stand_len ..
              obtain ⟨g6, o6, c6, hrv⟩ := HB10.out.rform (by show 0 < (V.stand s.now 2 rs kx).length; omega)
              have hrv' : rv = .slice (some ⟨g6, o6, none⟩) rs.length c6 := by rw [hrv]; show Value.slice _ (V.stand s.now 2 rs kx).length _ = _; rw [hsl]
              have HRV := Lib.hid hrv'
              obtain ⟨r, hr0⟩ : ∃ r, rs[kx]? = some r := ⟨rs[kx], List.getElem?_eq_getElem hkxl⟩
              have es : V.stand s.now 2 rs kx = rs.set kx { r with st := 2, since := s.now } := by
                unfold V.stand
                rw [Int.toNat_natCast]
                exact modify_at _ _ _ _ hr0
              have ef : V.fly s.now id rs kx = rs.set kx { r with st := 2, since := s.now, pod := id } := by
                unfold V.fly
                rw [Int.toNat_natCast]
                exact modify_at _ _ _ _ hr0
              have HES := Lib.hid es
              have HEF := Lib.hid ef
              clear hrv hrv' es ef hr0
              go_wp2_with fail
              refine sent14_at (by kernel_rfl) a.p g6 o6 rs.length c6 g5 o5 ids.length cap5 kx k id (fun _ b w' => St a A7 wr2 (sca a rv tv s) rv tv tn tx (cond b { s with q := q, ql := s.ql, pods := ps, rs := V.fly s.now id rs kx } { s with q := q, ql := s.ql, pods := ps, rs := V.stand s.now 2 rs kx }) w') hkxl hkl
                (fun _ w' y => by rw [y.blk.cell, sc22, HRV.out]) (fun _ w' y => by rw [(HO7.out.chg y.2 HDIS.out).cellAt k (by omega), List.getElem?_map, hidk]; rfl) (fun _ w' y => ?_) _ rfl rfl rfl rfl rfl () (HB10.out.no (Chg.refl No _).drew) fun _ w13 h13 => ?_
              · have y' : St a A7 wr2 (sca a rv tv s) rv tv tn tx { s with q := q, ql := s.ql, pods := ps, rs := rs.set kx { r with st := 2, since := s.now } } w' := by
                  rw [← HES.out]; exact y
                obtain ⟨⟨u0, h1⟩, h2, h3⟩ := y'.reqSetV HRV.out (by show rs.length = (rs.set kx _).length; rw [List.length_set]) (k := kx) (j := 3) (u := .int .i64 id) (q := { r with st := 2, since := s.now }) (q' := { r with st := 2, since := s.now, pod := id }) (by show (rs.set kx _)[kx]? = _; rw [List.getElem?_set_self hkxl]) (by decide) rfl
                refine ⟨u0, h1, h2, ?_⟩
                have e : (rs.set kx { r with st := 2, since := s.now }).set kx { r with st := 2, since := s.now, pod := id } = rs.set kx { r with st := 2, since := s.now, pod := id } := List.set_set _
                have h4 : St a A7 wr2 (sca a rv tv s) rv tv tn tx { s with q := q, ql := s.ql, pods := ps, rs := (rs.set kx { r with st := 2, since := s.now }).set kx { r with st := 2, since := s.now, pod := id } } _ := h3
                rw [e, ← HEF.out] at h4
                exact h4
              · have HB11 : Hid (St a A7 wr2 (sca a rv tv s) rv tv tn tx { s with q := q, ql := s.ql, pods := ps, rs := V.fly s.now id rs kx } w13) := h13
                clear h13 HB10
                simp only [lay_sent14, puts, List.setIfInBounds_toArray, List.set_cons_succ, List.set_cons_zero]
                go_wp2_with fail
                refine sent15_at (by kernel_rfl) a.p a.l g5 o5 ids.length cap5 k id (M.enter ps id).1 (fun _ b w' => St a A7 wr2 (sca a rv tv s) rv tv tn tx (cond b { s with q := q, ql := s.ql, pods := (M.enter ps id).2, rs := V.fly s.now id rs kx } { s with q := q, ql := s.ql, pods := ps, rs := V.fly s.now id rs kx }) w') hkl
                  (fun _ w' y => by rw [(HO7.out.chg y.2 HDIS.out).cellAt k (by omega), List.getElem?_map, hidk]; rfl) (fun _ w' y => (pods_any y (sc21 a rv tv s)).mono fun e w'' ⟨h1, h2⟩ => ⟨h1, y.no h2⟩) (fun _ w' y => ?_) _ rfl rfl rfl rfl () (HB11.out.no (Chg.refl No _).drew) fun _ w14 h14 => ?_
                · obtain ⟨C, hl, back⟩ := y.life
                  refine (A.enter_any w' C a.l ps s.made hl HO2.out id HBU.out).mono fun e w'' ⟨h1, h2, h3⟩ => ⟨h1, back _ s.made w'' (LifeR.wide.nx' LifeR.good h2) h3⟩
                · have HB12 : Hid (St a A7 wr2 (sca a rv tv s) rv tv tn tx { s with q := q, ql := s.ql, pods := (M.enter ps id).2, rs := V.fly s.now id rs kx } w14) := h14
                  clear h14 HB11
                  simp only [lay_sent15, puts, List.setIfInBounds_toArray, List.set_cons_succ, List.set_cons_zero]
                  go_wp2_with fail
                  go_roundg q.length
                  case measure => simp
                  case rel =>
                    rw [hkx] at HGO
                    obtain ⟨o1, o2, o3, o4⟩ := HR.out
                    have o5 := V.SendOk.one o1 id (HST.out hk0)
                    rw [hkx] at o5
                    refine ⟨q, (M.enter ps id).2, V.fly s.now id rs kx, rfl, o5, by rw [← o2, HGO.out], by rw [V.fly_len]; exact o3, ?_⟩
                    have h12 := HB12.out
                    rw [← HA7.out] at h12
                    exact St.rebase o4 C7.out h12
      · go_wp2_with fail
        refine (subset_all w4 _ v4 _ _ HO4.out (by omega) hone).mono ?_
        rintro e w5 ⟨v5, rfl, ho5, hc5⟩
        have H6 := Lib.hid (H5.out.no hc5)
        have C5 := Lib.hid (C4.out.trans hc5)
        have HO5 := Lib.hid (ho5.mono (T := fun k => wr.heap.size ≤ k) fun k _ hk => Nat.le_trans (Nat.le_trans HSZ HSZ4) hk)
        clear H5 HO4 c30 c18 ho5 hc5
        obtain ⟨va5, cap5, rfl⟩ := HO5.out.sl
        go_wp2_with fail
        have HBY : Hid (∀ wx, St a S w0 (sca a rv tv s) rv tv tn tx { s with q := x :: q, pods := ps, rs := rs } wx → ∀ i, Calls Tryz.prog 77 #[.pointer (some ⟨a.p, 0, none⟩), .int .i64 i] wx fun e w' => e = .returned (.int .i64 (V.busyAt ps i)) ∧ Chg No wx w') := fun wx hx i => busy_any hx (sc21 a rv tv s) (by have := HPS.out; show ps.length ≤ _; omega) i
        go_loopw [3, 30] (fun o i wr => ∃ n : Nat, n ≤ ids.length ∧ i = .int .i64 n ∧ Own wr (New w5) 141 1 o n ((ids.take n).map fun i => Value.complex .f64 (Fl.fl (V.busyAt ps i)) (Fl.fl 0)) ∧ Chg No w5 wr) (fun _ i _ => ids.length - (intOf i).toNat)
        case atStart => exact ⟨0, Nat.zero_le _, rfl, Own.nil _ _ _ _, Chg.refl _ _⟩
        case round =>
          obtain ⟨n, hk, rfl, ho, hc⟩ := hrel
          by_cases hlt : n < ids.length
          · obtain ⟨g5, o5, rfl, hS, hg, hcap, hmax⟩ := HO5.out.some_ (by omega)
            obtain ⟨i, hi⟩ : ∃ i, ids[n]? = some i := ⟨ids[n], List.getElem?_eq_getElem hlt⟩
            rename World => wr2
            have e0 : wr2.cell? ⟨g5, o5 + n, none⟩ = some (.int .i64 i) := by
              rw [(HO5.out.kept hc).cellAt n (by omega), List.getElem?_map, hi]; rfl
            have HT := Lib.hid (take_snoc (fun i => Value.complex .f64 (Fl.fl (V.busyAt ps i)) (Fl.fl 0)) hi)
            have HO6 := Lib.hid ho
            have HC6 := Lib.hid hc
            have H7 := Lib.hid (H6.out.no hc)
            clear ho hc hi hS hmax
            go_wp2_with fail
            refine (HBY.out _ H7.out i).mono ?_
            rintro e w8 ⟨rfl, hc8⟩
            have HO8 := Lib.hid (HO6.out.kept hc8)
            have HC8 := Lib.hid (HC6.out.trans hc8)
            have HB := Lib.hid (HBI.out i)
            clear HO6 HC6 H7 hc8
            generalize V.busyAt ps i = b at *
            go_wp2_with (first | (go_at_call 76; refine (L.of_in b 0 _ HB.out ⟨by omega, by omega⟩).mono ?_; rintro e w' ⟨rfl, rfl⟩) | (at_builtin; refine wpList_app _ rfl _ _ 140 rfl (New w5) 141 i1 _ 1 16 Tryz.underlying140 hi1 hy0 hy1 hy2 rfl _ _ _ rfl (HO8.out.alloc _) ⟨w8.heap.size, 0, none⟩ 1 1 [.complex .f64 (Fl.fl b) (Fl.fl 0)] rfl (by decide) rfl (built_at (by simp)) (by simp [Value.oneCell']) (by simp only [maxLen]; omega) (by omega) ?_; intro g2 o2 c2 w' ho' hc'))
            go_roundw
            case rel =>
              obtain ⟨h1, h2⟩ := fresh_app HC8.out ho' hc'
              exact ⟨n + 1, by omega, by go_num, by rw [HT.out]; exact h1, h2⟩
            case measure => simp [intOf]; omega
          · obtain rfl : n = ids.length := by omega
            rename World => wr2
            rw [List.take_length] at ho
            have H7 := Lib.hid (H6.out.no hc)
            have C7 := Lib.hid (C5.out.trans hc)
            have HO7 := Lib.hid (HO5.out.kept hc)
            have c14 : wr2.cell? ⟨a.p, 14, none⟩ = some (.int .i64 a.li) := by rw [H7.out.blk.cell, sc14]
            have HLE : Hid (∀ v, Own wr2 (New w5) 141 1 v ids.length (ids.map fun i => Value.complex .f64 (Fl.fl (V.busyAt ps i)) (Fl.fl 0)) → Calls Tryz.prog 78 #[v, .int .i64 a.li] wr2 fun e w' => e = .returned (.int .i64 (V.least (ids.map (V.busyAt ps)) a.li ids.length)) ∧ wr2 = w') := fun v hv => by
              have h1 := least_any wr2 (New w5) v (ids.map (V.busyAt ps)) (by rw [List.length_map, List.map_map]; exact hv) (fun b hb => by
                obtain ⟨i, _, rfl⟩ := List.mem_map.1 hb
                exact HBI.out i) (by rw [List.length_map]; omega) a.li
              rw [List.length_map] at h1
              exact h1
            have HO8 := Lib.hid ho
            clear H6 HO5 ho hc
            go_wp2_with fail
            refine (HLE.out _ HO8.out).mono ?_
            rintro e w9 ⟨rfl, rfl⟩
            obtain ⟨kb0, kb1⟩ := V.least_bd (ids.map (V.busyAt ps)) a.li ids.length
            clear HLE HO8 c14 HBY
            generalize hkk : V.least (ids.map (V.busyAt ps)) a.li ids.length = kk at *
            by_cases hk0 : kk < 0
            · have k1 : decide (kk < 0) = true := decide_eq_true hk0
              rw [if_pos hk0] at HGO
              go_wp2
              go_returns
              have e1 := HR.out.2.1
              refine ⟨rfl, ?_⟩
              have e2 : V.sent a.li s = { s with q := x :: q, pods := ps, rs := rs } := by
                unfold V.sent
                rw [← e1, HGO.out]
              rw [e2]
              exact H7.out
            · have k1 : decide (kk < 0) = false := decide_eq_false hk0
              rw [if_neg hk0] at HGO
              obtain ⟨k, rfl⟩ : ∃ k : Nat, kk = k := ⟨kk.toNat, by omega⟩
              rw [Int.toNat_natCast] at HGO HST
              have hkl : k < ids.length := by omega
              obtain ⟨id, hid⟩ : ∃ id, ids.getD k 0 = id := ⟨_, rfl⟩
              have hidk : ids[k]? = some id := by
                rw [← hid]
                simp only [List.getD, List.getElem?_eq_getElem hkl, Option.getD_some]
              rw [hid] at HGO HST
              have hqx := HR.out.1.qat x List.mem_cons_self
              obtain ⟨kx, hkx⟩ : ∃ kx : Nat, x.1 = kx := ⟨x.1.toNat, by omega⟩
              have hkxl : kx < rs.length := by omega
              have hrl : rs.length ≤ 1000000 := by have := HR.out.2.2.1; omega
              have HB7 := Lib.hid (HR.out.2.2.2.base C7.out)
              have hdis : ∀ k, wr.heap.size ≤ k → K.nx S w0 wr k → False := fun k h1 h2 => by have := h2.2; omega
              have HDIS := Lib.hid hdis
              clear hdis H7 hid
              generalize hA : K.nx S w0 wr = A7 at HB7 HDIS
              have HA7 := Lib.hid hA
              clear hA
              obtain ⟨g5, o5, rfl, _, _, _, _⟩ := HO7.out.some_ (by omega)
              go_wp2_with fail
              refine (waits_any HB7.out (sc21 a rv tv s)).mono ?_
              rintro e w10 ⟨rfl, hc10⟩
              have HB8 := Lib.hid (HB7.out.no hc10)
              clear HB7 hc10
              go_wp2_with fail
              obtain ⟨C10, hq10, back10⟩ := HB8.out.queue
              refine (B.take_any w10 C10 a.q x q 100 s.ql hq10 (by have := HR.out.1.qlen; simp only [List.length_cons] at this; omega)).mono ?_
              rintro e w11 ⟨rfl, hq11, hc11⟩
              have HB9 := Lib.hid (back10 q s.ql w11 (QueueR.wide.nx' QueueR.good hq11) hc11)
              clear HB8 hq10 back10 hq11 hc11
              rw [hkx]
              go_wp2_with fail
              refine (stand_any HB9.out (sc22 a rv tv s) (sc20 a rv tv s) kx hkxl (by show rs.length ≤ _; omega) 2).mono ?_
              rintro e w12 ⟨rfl, hs12⟩
              have HB10 := Lib.hid hs12
              clear HB9 hs12
              have hsl : (V.stand s.now 2 rs kx).length = rs.length := V.stand_len ..
              obtain ⟨g6, o6, c6, hrv⟩ := HB10.out.rform (by show 0 < (V.stand s.now 2 rs kx).length; omega)
              have hrv' : rv = .slice (some ⟨g6, o6, none⟩) rs.length c6 := by rw [hrv]; show Value.slice _ (V.stand s.now 2 rs kx).length _ = _; rw [hsl]
              have HRV := Lib.hid hrv'
              obtain ⟨r, hr0⟩ : ∃ r, rs[kx]? = some r := ⟨rs[kx], List.getElem?_eq_getElem hkxl⟩
              have es : V.stand s.now 2 rs kx = rs.set kx { r with st := 2, since := s.now } := by
                unfold V.stand
                rw [Int.toNat_natCast]
                exact modify_at _ _ _ _ hr0
              have ef : V.fly s.now id rs kx = rs.set kx { r with st := 2, since := s.now, pod := id } := by
                unfold V.fly
                rw [Int.toNat_natCast]
                exact modify_at _ _ _ _ hr0
              have HES := Lib.hid es
              have HEF := Lib.hid ef
              clear hrv hrv' es ef hr0
              go_wp2_with fail
              refine sent14_at (by kernel_rfl) a.p g6 o6 rs.length c6 g5 o5 ids.length cap5 kx k id (fun _ b w' => St a A7 wr2 (sca a rv tv s) rv tv tn tx (cond b { s with q := q, ql := s.ql, pods := ps, rs := V.fly s.now id rs kx } { s with q := q, ql := s.ql, pods := ps, rs := V.stand s.now 2 rs kx }) w') hkxl hkl
                (fun _ w' y => by rw [y.blk.cell, sc22, HRV.out]) (fun _ w' y => by rw [(HO7.out.chg y.2 HDIS.out).cellAt k (by omega), List.getElem?_map, hidk]; rfl) (fun _ w' y => ?_) _ rfl rfl rfl rfl rfl () (HB10.out.no (Chg.refl No _).drew) fun _ w13 h13 => ?_
              · have y' : St a A7 wr2 (sca a rv tv s) rv tv tn tx { s with q := q, ql := s.ql, pods := ps, rs := rs.set kx { r with st := 2, since := s.now } } w' := by
                  rw [← HES.out]; exact y
                obtain ⟨⟨u0, h1⟩, h2, h3⟩ := y'.reqSetV HRV.out (by show rs.length = (rs.set kx _).length; rw [List.length_set]) (k := kx) (j := 3) (u := .int .i64 id) (q := { r with st := 2, since := s.now }) (q' := { r with st := 2, since := s.now, pod := id }) (by show (rs.set kx _)[kx]? = _; rw [List.getElem?_set_self hkxl]) (by decide) rfl
                refine ⟨u0, h1, h2, ?_⟩
                have e : (rs.set kx { r with st := 2, since := s.now }).set kx { r with st := 2, since := s.now, pod := id } = rs.set kx { r with st := 2, since := s.now, pod := id } := List.set_set _
                have h4 : St a A7 wr2 (sca a rv tv s) rv tv tn tx { s with q := q, ql := s.ql, pods := ps, rs := (rs.set kx { r with st := 2, since := s.now }).set kx { r with st := 2, since := s.now, pod := id } } _ := h3
                rw [e, ← HEF.out] at h4
                exact h4
              · have HB11 : Hid (St a A7 wr2 (sca a rv tv s) rv tv tn tx { s with q := q, ql := s.ql, pods := ps, rs := V.fly s.now id rs kx } w13) := h13
                clear h13 HB10
                simp only [lay_sent14, puts, List.setIfInBounds_toArray, List.set_cons_succ, List.set_cons_zero]
                go_wp2_with fail
                refine sent15_at (by kernel_rfl) a.p a.l g5 o5 ids.length cap5 k id (M.enter ps id).1 (fun _ b w' => St a A7 wr2 (sca a rv tv s) rv tv tn tx (cond b { s with q := q, ql := s.ql, pods := (M.enter ps id).2, rs := V.fly s.now id rs kx } { s with q := q, ql := s.ql, pods := ps, rs := V.fly s.now id rs kx }) w') hkl
                  (fun _ w' y => by rw [(HO7.out.chg y.2 HDIS.out).cellAt k (by omega), List.getElem?_map, hidk]; rfl) (fun _ w' y => (pods_any y (sc21 a rv tv s)).mono fun e w'' ⟨h1, h2⟩ => ⟨h1, y.no h2⟩) (fun _ w' y => ?_) _ rfl rfl rfl rfl () (HB11.out.no (Chg.refl No _).drew) fun _ w14 h14 => ?_
                · obtain ⟨C, hl, back⟩ := y.life
                  refine (A.enter_any w' C a.l ps s.made hl HO2.out id HBU.out).mono fun e w'' ⟨h1, h2, h3⟩ => ⟨h1, back _ s.made w'' (LifeR.wide.nx' LifeR.good h2) h3⟩
                · have HB12 : Hid (St a A7 wr2 (sca a rv tv s) rv tv tn tx { s with q := q, ql := s.ql, pods := (M.enter ps id).2, rs := V.fly s.now id rs kx } w14) := h14
                  clear h14 HB11
                  simp only [lay_sent15, puts, List.setIfInBounds_toArray, List.set_cons_succ, List.set_cons_zero]
                  go_wp2_with fail
                  go_roundg q.length
                  case measure => simp
                  case rel =>
                    rw [hkx] at HGO
                    obtain ⟨o1, o2, o3, o4⟩ := HR.out
                    have o5 := V.SendOk.one o1 id (HST.out hk0)
                    rw [hkx] at o5
                    refine ⟨q, (M.enter ps id).2, V.fly s.now id rs kx, rfl, o5, by rw [← o2, HGO.out], by rw [V.fly_len]; exact o3, ?_⟩
                    have h12 := HB12.out
                    rw [← HA7.out] at h12
                    exact St.rebase o4 C7.out h12
end Go.Proofs.YtdgphoemjeakaaaGreatDoor.Y

/-! The whole service: arrive. -/
namespace Go.Proofs.YtdgphoemjeakaaaGreatDoor.Y
open Go.Proofs.YtdgphoemjeakaaaGreatDoor.Rg
open Go.Proofs.YtdgphoemjeakaaaGreatDoor.Me
open Go.RowKit Go.Proofs.YtdgphoemjeakaaaGreatDoor Go.Proofs.YtdgphoemjeakaaaGreatDoor.K Go.Proofs.YtdgphoemjeakaaaGreatDoor.P Go.Proofs.YtdgphoemjeakaaaGreatDoor.U Go.Proofs.YtdgphoemjeakaaaGreatDoor.R
set_option maxRecDepth 100000

theorem sc_set22 (a : At) (rv rv' tv : Value) (s : V.Sys) : (sca a rv tv s).setIfInBounds 22 rv' = sca a rv' tv s := by kernel_rfl
/-- Whoever comes waits at first. -/
def came (s : V.Sys) : V.Req := ⟨s.now, s.now, 1, -1⟩
theorem came_cells (s : V.Sys) : rcells (came s) = [.int .i64 s.now, .int .i64 s.now, .int .i64 1, .int .i64 (-1)] := rfl
theorem come_now (s : V.Sys) : (V.come s).now = s.now := by
  unfold V.come
  split <;> rfl

section
variable {a : At} {S : Nat → Prop} {w0 : World} {rv tv : Value} {tn : Nat} {tx : List Value} {s : V.Sys} {w : World}
/-- The states of the region that appends. -/
def Xarr (a : At) (S : Nat → Prop) (w0 : World) (rv tv : Value) (tn : Nat) (tx : List Value) (s : V.Sys) (x : Nat × (Option Addr × Nat)) (b0 b1 b2 : Bool) (w : World) : Prop :=
  St a S w0 (sca a (cond b2 (.slice x.2.1 (s.rs.length + 1) x.2.2) rv) tv s) (cond b1 (.slice x.2.1 (s.rs.length + 1) x.2.2) rv) tv tn tx (cond b1 { s with rs := s.rs ++ [came s] } s) w ∧ (b0 = true → b1 = false → Blk w x.1 (rcells (came s)).toArray 48)
theorem Xarr.make (x : Nat × (Option Addr × Nat)) (h : Xarr a S w0 rv tv tn tx s x false false false w) : Xarr a S w0 rv tv tn tx s (w.heap.size, x.2) true false false (w.alloc (.cells #[.int .i64 s.now, .int .i64 s.now, .int .i64 1, .int .i64 (-1)] 48)) :=
  ⟨h.1.no ((Chg.refl No w).alloc _), fun _ _ => Blk.new w _ _⟩
theorem Xarr.app (hn : s.rs.length ≤ 1000000) {va : Option Addr} {c : Nat} (x : Nat × (Option Addr × Nat)) (h : Xarr a S w0 (.slice va s.rs.length c) tv tn tx s x true false false w) : ∃ (C : Nat → Prop) (xs : List Value), Own w C 48 4 (.slice va s.rs.length c) s.rs.length xs ∧ (∀ j u, ([.int .i64 s.now, .int .i64 s.now, .int .i64 1, .int .i64 (-1)] : List Value)[j]? = some u → w.cell? ((⟨x.1, 0, none⟩ : Addr).add j) = some u) ∧ s.rs.length + 1 ≤ maxLen ∧ (s.rs.length + 1) * 32 ≤ 140737488355328 ∧ ∀ g' o' c' w', Own w' (nx C w w') 48 4 (.slice (some ⟨g', o', none⟩) (s.rs.length + 1) c') (s.rs.length + 1) (xs ++ [.int .i64 s.now, .int .i64 s.now, .int .i64 1, .int .i64 (-1)]) → Chg C w w' → Xarr a S w0 (.slice va s.rs.length c) tv tn tx s (x.1, (some ⟨g', o', none⟩, c')) true true false w' := by
  obtain ⟨h1, h2⟩ := h
  have hb := h2 rfl rfl
  obtain ⟨C, ⟨hbd, ho⟩, back⟩ := h1.req
  refine ⟨C, _, ho, fun j u hu => ?_, by simp only [maxLen]; omega, by omega, fun g' o' c' w' ho' hc' => ⟨?_, fun _ h => by cases h⟩⟩
  · rw [Addr.add_lit, Nat.zero_add, hb.cell, ← Array.getElem?_toList]
    exact hu
  · refine back (.slice (some ⟨g', o', none⟩) (s.rs.length + 1) c') (s.rs ++ [came s]) w' ⟨fun k hk => hk.2, ?_⟩ hc'
    rw [List.length_append, reqs_snoc]
    exact ho'
theorem Xarr.store {va : Option Addr} {c : Nat} (x : Nat × (Option Addr × Nat)) (h : Xarr a S w0 (.slice va s.rs.length c) tv tn tx s x true true false w) : ∃ u0, w.cell? ⟨a.p, 22, none⟩ = some u0 ∧ w.frozen? ⟨a.p, 22, none⟩ = false ∧ Xarr a S w0 (.slice va s.rs.length c) tv tn tx s x true true true (w.setCell ⟨a.p, 22, none⟩ (.slice x.2.1 (s.rs.length + 1) x.2.2)) := by
  have h1 := h.1
  refine ⟨_, by rw [h1.blk.cell]; exact sc22 _ _ _ _, h1.blk.free 22, ?_, fun _ h => by cases h⟩
  have h2 := h1.cell 22 (.slice x.2.1 (s.rs.length + 1) x.2.2)
  rw [show (sca a (cond false (.slice x.2.1 (s.rs.length + 1) x.2.2) (.slice va s.rs.length c)) tv s).setIfInBounds 22 (.slice x.2.1 (s.rs.length + 1) x.2.2) = sca a (.slice x.2.1 (s.rs.length + 1) x.2.2) tv s from sc_set22 _ _ _ _ _] at h2
  exact h2
end

set_option maxHeartbeats 8000000 in
theorem arrive_any {a : At} {S : Nat → Prop} {w0 : World} {rv tv : Value} {tn : Nat} {tx : List Value} {s : V.Sys} {w : World} (h : St a S w0 (sca a rv tv s) rv tv tn tx s w) (inv : V.Inv a.li s) (n1 : s.now ≤ 1000000) (hr : s.rs.length + 1 ≤ 1000000) (l0 : 0 ≤ a.li) (l1 : a.li ≤ 1000) :
    Calls Tryz.prog 27 #[.pointer (some ⟨a.p, 0, none⟩)] w fun e w' => e = .returned (.tuple #[]) ∧ ∃ rv', St a S w0 (sca a rv' tv (V.arrive a.li s)) rv' tv tn tx (V.arrive a.li s) w' := by
  have hz := inv.now0
  have hql := inv.ql
  have hqlen := inv.qlen
  have HSD := Lib.hid inv.come.send
  have HCL := Lib.hid (V.come_len s)
  obtain ⟨C0, ho0⟩ := h.rq
  obtain ⟨va, cap, rfl⟩ := ho0.sl
  have c22 : w.cell? ⟨a.p, 22, none⟩ = some (.slice va s.rs.length cap) := by rw [h.blk.cell, sc22]
  have H := Lib.hid h
  clear h inv ho0
  go_enter Tryz.func27, Tryz.ntmps27
  go_wp2_with fail
  refine arr1_at (by kernel_rfl) a.p va s.rs.length cap s.now (Xarr a S w0 (.slice va s.rs.length cap) tv tn tx s) (fun _ _ _ y => by rw [y.1.blk.cell]; exact sc22 _ _ _ _) (fun _ _ y => by rw [y.1.blk.cell]; exact sc20 _ _ _ _) (fun x _ y => Xarr.make x y) (fun x _ y => Xarr.app (by omega) x y) (fun x _ y => Xarr.store x y) _ rfl rfl (0, none, 0) ⟨H.out.no (Chg.refl No _).drew, fun h _ => by cases h⟩ fun x w1 h1 => ?_
  have H1 : Hid (St a S w0 (sca a (.slice x.2.1 (s.rs.length + 1) x.2.2) tv s) (.slice x.2.1 (s.rs.length + 1) x.2.2) tv tn tx { s with rs := s.rs ++ [came s] } w1) := h1.1
  clear h1 H c22
  simp only [lay_arr1, puts, List.setIfInBounds_toArray, List.set_cons_succ, List.set_cons_zero]
  generalize hrv : Value.slice x.2.1 (s.rs.length + 1) x.2.2 = rv at *
  clear hrv
  by_cases hq : 100 ≤ s.q.length
  · have ec : V.come s = { s with rs := s.rs ++ [⟨s.now, s.now, 5, -1⟩] } := by unfold V.come; rw [if_pos hq]
    go_wp2_with fail
    refine arr2_at (by kernel_rfl) a.p a.q s.rs.length s.now 6 (fun _ _ w' => St a S w0 (sca a rv tv s) rv tv tn tx { s with rs := s.rs ++ [came s] } w') (fun _ _ y => by rw [y.blk.cell]; exact sc20 _ _ _ _) (fun _ w' y => (waits_any y (sc21 a rv tv s)).mono fun e w'' ⟨h1, h2⟩ => ⟨h1, y.no h2⟩) (fun _ w' y => ?_) _ rfl rfl rfl () (H1.out.no (Chg.refl No _).drew) fun _ w2 h2 => ?_
    · obtain ⟨C, hl, _⟩ := y.queue
      exact (B.put_full w' C a.q s.q 100 s.ql s.rs.length s.now hl (by omega) hql (by omega)).mono fun e w'' ⟨h1, h2⟩ => ⟨h1, y.no h2⟩
    · have hlen : (s.rs ++ [came s]).length = s.rs.length + 1 := by simp
      obtain ⟨g, o, c, hrv⟩ := h2.rform (by show 0 < (s.rs ++ [came s]).length; omega)
      have hrv' : rv = .slice (some ⟨g, o, none⟩) (s.rs.length + 1) c := by rw [hrv]; show Value.slice _ (s.rs ++ [came s]).length _ = _; rw [hlen]
      have c22 : w2.cell? ⟨a.p, 22, none⟩ = some (.slice (some ⟨g, o, none⟩) (s.rs.length + 1) c) := by rw [h2.blk.cell, sc22, hrv']
      have hat : (s.rs ++ [came s])[s.rs.length]? = some (came s) := by rw [List.getElem?_append_right (Nat.le_refl _)]; simp
      obtain ⟨⟨u0, k1⟩, k2, k3⟩ := h2.reqSetV hrv' hlen.symm (k := s.rs.length) (j := 2) (u := .int .i64 5) (q' := ⟨s.now, s.now, 5, -1⟩) hat (by decide) rfl
      have e1 : (s.rs ++ [came s]).set s.rs.length ⟨s.now, s.now, 5, -1⟩ = s.rs ++ [⟨s.now, s.now, 5, -1⟩] := by rw [List.set_append_right _ _ (Nat.le_refl _)]; simp
      have H3 : Hid (St a S w0 (sca a rv tv (V.come s)) rv tv tn tx (V.come s) (w2.setCell ⟨g, o + s.rs.length * 4 + 2, none⟩ (.int .i64 5))) := by
        rw [ec]
        have k4 : St a S w0 (sca a rv tv s) rv tv tn tx { s with rs := (s.rs ++ [came s]).set s.rs.length ⟨s.now, s.now, 5, -1⟩ } _ := k3
        rw [e1] at k4
        exact k4
      clear h2 k3 hat hrv hrv' H1
      simp only [lay_arr2, puts, List.setIfInBounds_toArray, List.set_cons_succ, List.set_cons_zero]
      go_wp2_with fail
      refine (sent_any H3.out HSD.out (by rw [come_now]; exact n1) (by rw [HCL.out]; exact hr) l0 l1).mono ?_
      rintro e w4 ⟨rfl, h4⟩
      have H4 := Lib.hid h4
      clear h4
      go_wp2_with fail
      go_returns
      exact ⟨rfl, _, H4.out⟩
  · have ec : V.come s = { s with rs := s.rs ++ [came s], q := s.q ++ [((s.rs.length : Int), s.now)], ql := s.now } := by unfold V.come; rw [if_neg hq]; rfl
    go_wp2_with fail
    refine arr2_at (by kernel_rfl) a.p a.q s.rs.length s.now 0 (fun _ b w' => St a S w0 (sca a rv tv s) rv tv tn tx (cond b (V.come s) { s with rs := s.rs ++ [came s] }) w') (fun _ _ y => by rw [y.blk.cell]; exact sc20 _ _ _ _) (fun _ w' y => (waits_any y (sc21 a rv tv s)).mono fun e w'' ⟨h1, h2⟩ => ⟨h1, y.no h2⟩) (fun _ w' y => ?_) _ rfl rfl rfl () (H1.out.no (Chg.refl No _).drew) fun _ w2 h2 => ?_
    · obtain ⟨C, hl, back⟩ := y.queue
      exact (B.put_yes w' C a.q s.q 100 s.ql s.rs.length s.now hl (by omega) hql (by omega) (by omega)).mono fun e w'' ⟨h1, h2, h3⟩ => ⟨h1, by rw [ec]; exact back _ _ w'' h2 h3⟩
    · have H3 : Hid (St a S w0 (sca a rv tv (V.come s)) rv tv tn tx (V.come s) w2) := by
        have h2' : St a S w0 (sca a rv tv s) rv tv tn tx (V.come s) w2 := h2
        rw [ec] at h2' ⊢
        exact h2'
      clear h2 H1
      simp only [lay_arr2, puts, List.setIfInBounds_toArray, List.set_cons_succ, List.set_cons_zero]
      go_wp2_with fail
      refine (sent_any H3.out HSD.out (by rw [come_now]; exact n1) (by rw [HCL.out]; exact hr) l0 l1).mono ?_
      rintro e w4 ⟨rfl, h4⟩
      have H4 := Lib.hid h4
      clear h4
      go_wp2_with fail
      go_returns
      exact ⟨rfl, _, H4.out⟩
end Go.Proofs.YtdgphoemjeakaaaGreatDoor.Y

/-! The whole service: finish, Requests. -/
namespace Go.Proofs.YtdgphoemjeakaaaGreatDoor.Y
open Go.Proofs.YtdgphoemjeakaaaGreatDoor.Rg
open Go.Proofs.YtdgphoemjeakaaaGreatDoor.Me
open Go.RowKit Go.Proofs.YtdgphoemjeakaaaGreatDoor Go.Proofs.YtdgphoemjeakaaaGreatDoor.K Go.Proofs.YtdgphoemjeakaaaGreatDoor.P Go.Proofs.YtdgphoemjeakaaaGreatDoor.U Go.Proofs.YtdgphoemjeakaaaGreatDoor.R
set_option maxRecDepth 100000

theorem flyFrom_mem : ∀ (l : List V.Req) (k : Nat) (x : Int), x ∈ V.flyFrom k l → (k : Int) ≤ x ∧ x < k + l.length
  | [], _, _, h => by simp [V.flyFrom] at h
  | r :: l, k, x, h => by
    simp only [V.flyFrom] at h
    simp only [List.length_cons]
    split at h
    · rcases List.mem_cons.1 h with rfl | h
      · omega
      · have := flyFrom_mem l (k + 1) x h
        omega
    · have := flyFrom_mem l (k + 1) x h
      omega
theorem St.reqCell {a : At} {S : Nat → Prop} {w0 : World} {cs : Array Value} {rv tv : Value} {tn : Nat} {tx : List Value} {s : V.Sys} {w : World} {g o n c : Nat} (h : St a S w0 cs rv tv tn tx s w) (hv : rv = .slice (some ⟨g, o, none⟩) n c) (hn : n = s.rs.length) {k j : Nat} {q : V.Req} (hq : s.rs[k]? = some q) (hj : j < 4) : w.cell? ⟨g, o + k * 4 + j, none⟩ = (rcells q)[j]? := by
  subst hv
  subst hn
  obtain ⟨C, ho⟩ := h.rq
  have hk : k < s.rs.length := (List.getElem?_eq_some_iff.1 hq).1
  have hcell := ho.cellAt (k * 4 + j) (by omega)
  rw [reqs_at _ _ _ _ hq hj, ← Nat.add_assoc] at hcell
  exact hcell
theorem mid_inv {li : Int} {s : V.Sys} (h : V.Inv li s) (k id : Int) : V.Inv li { s with rs := V.stand s.now 3 s.rs k, pods := (M.leave s.pods id).2 } := by
  obtain ⟨h1, h2⟩ := h.pods.leave id
  have h3 := h.load
  exact ⟨h.now0, h1, by simp only [V.stand_len]; omega, h.qlen, fun x hx => by simp only [V.stand_len]; exact h.qat x hx, h.ql, V.stand_st h.rst (by decide) (by decide), h.dec, h.lost, h.zs, h.want⟩

set_option maxHeartbeats 8000000 in
theorem finish_any {a : At} {S : Nat → Prop} {w0 : World} {rv tv : Value} {tn : Nat} {tx : List Value} {s : V.Sys} {w : World} (h : St a S w0 (sca a rv tv s) rv tv tn tx s w) (inv : V.Inv a.li s) (n1 : s.now ≤ 1000000) (hr : s.rs.length ≤ 1000000) (l0 : 0 ≤ a.li) (l1 : a.li ≤ 1000) (nn : Nat) :
    Calls Tryz.prog 28 #[.pointer (some ⟨a.p, 0, none⟩), .int .i64 nn] w fun e w' => e = .returned (.int .i64 (V.finish a.li nn s).1) ∧ St a S w0 (sca a rv tv (V.finish a.li nn s).2) rv tv tn tx (V.finish a.li nn s).2 w' := by
  obtain ⟨C0, ho0⟩ := h.rq
  have hb0 := h.blk
  have HF := Lib.hid (flying_c a.p rv s.rs w C0 _ hb0 (sc22 a rv tv s) ho0 (by omega))
  have H := Lib.hid h
  have HI := Lib.hid inv
  clear h inv hb0 ho0
  obtain ⟨fl, hfl⟩ : ∃ fl, V.flying s.rs = fl := ⟨_, rfl⟩
  rw [hfl] at HF
  go_enter Tryz.func28, Tryz.ntmps28
  go_wp2_with fail
  refine HF.out.mono ?_
  rintro e w1 ⟨v, rfl, ho, hc⟩
  obtain ⟨vl, cl, rfl⟩ := ho.sl
  have HB := Lib.hid (H.out.base hc)
  have C1 := Lib.hid hc
  have HO := Lib.hid ho
  have HDIS : Hid (∀ k, New w k → K.nx S w0 w k → False) := fun k h1 h2 => by have := h2.2; unfold New at h1; omega
  clear ho hc HF
  have HFL := Lib.hid hfl
  by_cases hn : nn < fl.length
  · have k1 : decide ((fl.length : Int) ≤ nn) = false := decide_eq_false (by omega)
    obtain ⟨kk, hkk⟩ : ∃ kk, fl[nn]? = some kk := ⟨fl[nn], List.getElem?_eq_getElem hn⟩
    have hb := flyFrom_mem s.rs 0 kk (by rw [show V.flyFrom 0 s.rs = fl from hfl]; exact List.mem_of_getElem? hkk)
    obtain ⟨kx, rfl⟩ : ∃ kx : Nat, kk = kx := ⟨kk.toNat, by omega⟩
    have hkx : kx < s.rs.length := by omega
    obtain ⟨q, hq⟩ : ∃ q, s.rs[kx]? = some q := ⟨s.rs[kx], List.getElem?_eq_getElem hkx⟩
    have ef : V.finish a.li nn s = (0, V.sent a.li { s with rs := V.stand s.now 3 s.rs kx, pods := (M.leave s.pods q.pod).2 }) := by
      unfold V.finish
      rw [hfl, hkk]
      simp only [Int.toNat_natCast]
      have : s.rs.getD kx ⟨0, 0, 0, 0⟩ = q := by
        rw [List.getD, hq]; rfl
      rw [this]
    have HEF := Lib.hid ef
    have HQ := Lib.hid hq
    have HKK := Lib.hid hkk
    clear ef hq hkk hfl hb
    obtain ⟨g5, o5, rfl, _, _, _, _⟩ := HO.out.some_ (by omega)
    have e0 : w1.cell? ⟨g5, o5 + nn, none⟩ = some (.int .i64 kx) := by
      rw [HO.out.cellAt nn (by omega), List.getElem?_map, HKK.out]; rfl
    go_wp2_with fail
    refine (stand_any HB.out (sc22 a rv tv s) (sc20 a rv tv s) kx hkx (by omega) 3).mono ?_
    rintro e w2 ⟨rfl, h2⟩
    have H2 := Lib.hid h2
    clear h2 HB e0
    have hsl : (V.stand s.now 3 s.rs kx).length = s.rs.length := V.stand_len ..
    obtain ⟨g6, o6, c6, hrv⟩ := H2.out.rform (by show 0 < (V.stand s.now 3 s.rs kx).length; omega)
    have hrv' : rv = .slice (some ⟨g6, o6, none⟩) s.rs.length c6 := by rw [hrv]; show Value.slice _ (V.stand s.now 3 s.rs kx).length _ = _; rw [hsl]
    have HRV := Lib.hid hrv'
    have hq2 : (V.stand s.now 3 s.rs kx)[kx]? = some { q with st := 3, since := s.now } := by
      unfold V.stand
      rw [Int.toNat_natCast, modify_at _ _ _ _ HQ.out, List.getElem?_set_self hkx]
    have HQ2 := Lib.hid hq2
    obtain ⟨OK, hps, _⟩ := pods_small (n := s.rs.length) HI.out.pods (by have := HI.out.load; omega) hr l1 n1
    have HOK := Lib.hid OK
    clear hrv hrv' hq2 OK hps
    go_wp2_with fail
    refine fin5_at (by kernel_rfl) a.p g6 o6 s.rs.length c6 g5 o5 fl.length cl a.l nn kx q.pod (M.leave s.pods q.pod).1 (fun _ b w' => St a (K.nx S w0 w) w1 (sca a rv tv s) rv tv tn tx (cond b { s with rs := V.stand s.now 3 s.rs kx, pods := (M.leave s.pods q.pod).2 } { s with rs := V.stand s.now 3 s.rs kx }) w') hkx hn
      (fun _ _ y => by rw [y.blk.cell, sc22, HRV.out]) (fun _ w' y => by rw [(HO.out.chg y.2 HDIS.out).cellAt nn (by omega), List.getElem?_map, HKK.out]; rfl) (fun _ w' y => ?_) (fun _ w' y => (pods_any y (sc21 a rv tv s)).mono fun e w'' ⟨h1, h2⟩ => ⟨h1, y.no h2⟩) (fun _ w' y => ?_) _ rfl rfl rfl rfl () (H2.out.no (Chg.refl No _).drew) fun _ w3 h3 => ?_
    · have y' : St a (K.nx S w0 w) w1 (sca a rv tv s) rv tv tn tx { s with rs := V.stand s.now 3 s.rs kx } w' := y
      exact y'.reqCell (j := 3) (q := { q with st := 3, since := s.now }) HRV.out hsl.symm HQ2.out (by decide)
    · obtain ⟨C, hl, back⟩ := y.life
      exact (A.leave_any w' C a.l s.pods s.made hl HOK.out q.pod).mono fun e w'' ⟨h1, h2, h3⟩ => ⟨h1, back _ s.made w'' (LifeR.wide.nx' LifeR.good h2) h3⟩
    · have H3 : Hid (St a S w0 (sca a rv tv { s with rs := V.stand s.now 3 s.rs kx, pods := (M.leave s.pods q.pod).2 }) rv tv tn tx { s with rs := V.stand s.now 3 s.rs kx, pods := (M.leave s.pods q.pod).2 } w3) := H.out.rebase C1.out h3
      clear h3 H2
      simp only [lay_fin5, puts, List.setIfInBounds_toArray, List.set_cons_succ, List.set_cons_zero]
      go_wp2_with fail
      refine (sent_any H3.out (mid_inv HI.out kx q.pod).send n1 (by show (V.stand s.now 3 s.rs kx).length ≤ _; omega) l0 l1).mono ?_
      rintro e w4 ⟨rfl, h4⟩
      have H4 := Lib.hid h4
      clear h4
      go_wp2_with fail
      go_returns
      rw [HEF.out]
      exact ⟨rfl, H4.out⟩
  · have k1 : decide ((fl.length : Int) ≤ nn) = true := decide_eq_true (by omega)
    have ef : V.finish a.li nn s = (7, s) := by
      unfold V.finish
      rw [hfl, List.getElem?_eq_none (by omega)]
    have HEF := Lib.hid ef
    have H1 := Lib.hid (H.out.no C1.out)
    clear ef HB HO hfl
    go_wp2
    go_returns
    rw [HEF.out]
    exact ⟨rfl, H1.out⟩

theorem reqs_one (l : List V.Req) : ∀ u ∈ reqs l, u.oneCell' = true := by
  intro u hu
  obtain ⟨q, _, h⟩ := List.mem_flatMap.1 hu
  exact rcells_one q u h
set_option maxHeartbeats 1000000 in
theorem requests_any {a : At} {S : Nat → Prop} {w0 : World} {rv tv : Value} {tn : Nat} {tx : List Value} {s : V.Sys} {w : World} (h : St a S w0 (sca a rv tv s) rv tv tn tx s w) (hr : s.rs.length ≤ 1000000) :
    Calls Tryz.prog 14 #[.pointer (some ⟨a.p, 0, none⟩)] w fun e w' => ∃ v, e = .returned v ∧ Own w' (New w) 48 4 v s.rs.length (reqs s.rs) ∧ Chg No w w' := by
  obtain ⟨C0, ho0⟩ := h.rq
  have HC := Lib.hid (clone_reqs w C0 rv s.rs.length (reqs s.rs) ho0 (by omega) (reqs_one s.rs))
  have c22 : w.cell? ⟨a.p, 22, none⟩ = some rv := by rw [h.blk.cell, sc22]
  clear h ho0
  go_enter Tryz.func14, Tryz.ntmps14
  go_wp2_with fail
  refine HC.out.mono ?_
  rintro e w1 ⟨v, rfl, ho, hc⟩
  have HO := Lib.hid ho
  have C1 := Lib.hid hc
  clear ho hc
  go_wp2_with fail
  go_ret
  exact ⟨_, rfl, HO.out, C1.out⟩
end Go.Proofs.YtdgphoemjeakaaaGreatDoor.Y
