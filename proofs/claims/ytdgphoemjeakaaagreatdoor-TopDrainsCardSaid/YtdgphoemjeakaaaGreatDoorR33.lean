/- strings.Trim at the digits: what is cut off are digits. strings.Trim at the digits; text.digits. text.digits, text.Number: no string stops them. text.Number: no string stops it. text.part.set: a setting is a value, or it stays. -/
import Derived.Test.YtdgphoemjeakaaaGreatDoorR26
import Derived.Test.YtdgphoemjeakaaaGreatDoorR02
import Derived.Deep.WholeRow
import Derived.Test.YtdgphoemjeakaaaGreatDoorR09
namespace Go.Proofs.YtdgphoemjeakaaaGreatDoor.Tx
open Go.RowKit K
def SetAt (w : World) (b : Nat) (f : UInt8 → Bool) : Prop := ∀ x : UInt8, w.cell? ⟨b, x.toNat, none⟩ = some (.bool (f x))
theorem init_mem {t : ByteArray} (h : 0 < t.size) {c : UInt8} (hc : c ∈ t.data.toList) : c ∈ (t.extract 0 (t.size - 1)).data.toList ∨ c = t[t.size - 1] := by
  obtain ⟨i, hi, rfl⟩ := List.getElem_of_mem hc
  have hz : t.data.toList.length = t.size := by rw [Array.length_toList]; rfl
  by_cases e : i = t.size - 1
  · right
    subst e
    simp [ByteArray.getElem_eq_getElem_data]
  · left
    have : (t.extract 0 (t.size - 1)).data.toList = t.data.toList.take (t.size - 1) := by
      rw [ByteArray.data_extract, Array.toList_extract]
      simp [List.extract]
    rw [this]
    refine List.mem_of_getElem? (i := i) ?_
    rw [List.getElem?_take, if_pos (by omega), List.getElem?_eq_getElem hi]
theorem tail_mem {t : ByteArray} (h : 0 < t.size) {c : UInt8} (hc : c ∈ t.data.toList) : c ∈ (t.extract 1 t.size).data.toList ∨ c = t[0] := by
  obtain ⟨i, hi, rfl⟩ := List.getElem_of_mem hc
  have hz : t.data.toList.length = t.size := by rw [Array.length_toList]; rfl
  by_cases e : i = 0
  · right
    subst e
    simp [ByteArray.getElem_eq_getElem_data]
  · left
    have : (t.extract 1 t.size).data.toList = t.data.toList.drop 1 := by
      rw [ByteArray.data_extract, Array.toList_extract]
      simp [List.extract]
      rw [List.take_of_length_le (by rw [List.length_tail, hz]; omega)]
    rw [this]
    refine List.mem_of_getElem? (i := i - 1) ?_
    rw [List.getElem?_drop, show 1 + (i - 1) = i by omega, List.getElem?_eq_getElem hi]
def szOf : Value → Nat
  | .string t => t.size
  | _ => 0
set_option maxHeartbeats 1000000 in
theorem right_any (s : ByteArray) (b : Nat) (f : UInt8 → Bool) (w : World) (hs : s.size ≤ 4294967296) (hf : SetAt w b f) : Calls Tryz.prog 122 #[.string s, .pointer (some ⟨b, 0, none⟩)] w fun e w' => ∃ t : ByteArray, e = .returned (.string t) ∧ t.size ≤ s.size ∧ (∀ c, c ∈ s.data.toList → c ∈ t.data.toList ∨ f c = true) ∧ w' = w := by
  have HF := Lib.hid hf
  clear hf
  go_enter Tryz.func122, Tryz.ntmps122
  go_wp2_with fail
  go_loopw [0] (fun v wr => ∃ t : ByteArray, v = .string t ∧ t.size ≤ s.size ∧ Hid (∀ c, c ∈ s.data.toList → c ∈ t.data.toList ∨ f c = true) ∧ wr = w) (fun v _ => szOf v)
  case atStart => exact ⟨s, rfl, Nat.le_refl _, fun c h => .inl h, rfl⟩
  case round =>
    obtain ⟨t, rfl, ht, HT, rfl⟩ := hrel
    by_cases h0 : 0 < t.size
    · go_wp2_with fail
      refine (Tryz.asciiSet_contains b _ _ wr (HF.out _)).mono ?_
      rintro e w2 ⟨rfl, rfl⟩
      cases hfx : f t[t.size - 1] with
      | false =>
        go_wp2_with fail
        go_ret
        exact ⟨t, rfl, ht, HT.out, rfl⟩
      | true =>
        have HX := Lib.hid hfx
        clear hfx
        go_wp2_with fail
        go_roundw
        case rel =>
          refine ⟨_, rfl, by rw [ByteArray.size_extract]; omega, fun c hc => ?_, trivial⟩
          rcases HT.out c hc with h | h
          · rcases init_mem h0 h with h | h
            · exact .inl h
            · exact .inr (h ▸ HX.out)
          · exact .inr h
        case measure =>
          show (t.extract 0 (t.size - 1)).size < t.size
          rw [ByteArray.size_extract]
          omega
    · go_wp2_with fail
      go_ret
      exact ⟨t, rfl, ht, HT.out, rfl⟩
set_option maxHeartbeats 1000000 in
theorem left_any (s : ByteArray) (b : Nat) (f : UInt8 → Bool) (w : World) (hs : s.size ≤ 4294967296) (hf : SetAt w b f) : Calls Tryz.prog 121 #[.string s, .pointer (some ⟨b, 0, none⟩)] w fun e w' => ∃ t : ByteArray, e = .returned (.string t) ∧ t.size ≤ s.size ∧ (∀ c, c ∈ s.data.toList → c ∈ t.data.toList ∨ f c = true) ∧ w' = w := by
  have HF := Lib.hid hf
  clear hf
  go_enter Tryz.func121, Tryz.ntmps121
  go_wp2_with fail
  go_loopw [0] (fun v wr => ∃ t : ByteArray, v = .string t ∧ t.size ≤ s.size ∧ Hid (∀ c, c ∈ s.data.toList → c ∈ t.data.toList ∨ f c = true) ∧ wr = w) (fun v _ => szOf v)
  case atStart => exact ⟨s, rfl, Nat.le_refl _, fun c h => .inl h, rfl⟩
  case round =>
    obtain ⟨t, rfl, ht, HT, rfl⟩ := hrel
    by_cases h0 : 0 < t.size
    · go_wp2_with fail
      refine (Tryz.asciiSet_contains b _ _ wr (HF.out _)).mono ?_
      rintro e w2 ⟨rfl, rfl⟩
      cases hfx : f t[0] with
      | false =>
        go_wp2_with fail
        go_ret
        exact ⟨t, rfl, ht, HT.out, rfl⟩
      | true =>
        have HX := Lib.hid hfx
        clear hfx
        go_wp2_with fail
        go_roundw
        case rel =>
          refine ⟨_, rfl, by rw [ByteArray.size_extract]; omega, fun c hc => ?_, trivial⟩
          rcases HT.out c hc with h | h
          · rcases tail_mem h0 h with h | h
            · exact .inl h
            · exact .inr (h ▸ HX.out)
          · exact .inr h
        case measure =>
          show (t.extract 1 t.size).size < t.size
          rw [ByteArray.size_extract]
          omega
    · go_wp2_with fail
      go_ret
      exact ⟨t, rfl, ht, HT.out, rfl⟩
end Go.Proofs.YtdgphoemjeakaaaGreatDoor.Tx
namespace Go.Proofs.YtdgphoemjeakaaaGreatDoor.Tx
open Go.RowKit K
set_option maxRecDepth 100000
def digs : ByteArray := ⟨#[48, 49, 50, 51, 52, 53, 54, 55, 56, 57]⟩
noncomputable def dset : Array Value := Lib.setCells digs.data.toList
def isD (x : UInt8) : Bool := digs.data.toList.contains x
noncomputable def zset : Array Value := Array.replicate 256 (.bool false)
noncomputable def st197 (a v : Value) (w : World) : Result Next := (do Instr.storeAt 197 a v; pure .skip : Sem Next).run Tryz.prog w
noncomputable def al197 (w : World) : Result Next := .ok (.value (.pointer (some ⟨w.heap.size, 0, none⟩))) (w.alloc (.cells zset 197))
theorem exec_st197 (ρ : Operand → Value) (dst : Option Tmp) (a x : Operand) (ty : TypeId) (pos : String) (after : Array Edge) (gd : Option (Nat × Bool)) (w : World) : (execOp ρ { dst := dst, op := .store 197 a x, type := ty, pos := pos, after := after, guard := gd }).run Tryz.prog w = st197 (ρ a) (ρ x) w := rfl
theorem exec_al197 (ρ : Operand → Value) (dst : Option Tmp) (ty : TypeId) (pos : String) (after : Array Edge) (gd : Option (Nat × Bool)) (w : World) : (execOp ρ { dst := dst, op := .alloc 197, type := ty, pos := pos, after := after, guard := gd }).run Tryz.prog w = al197 w := by
  kernel_rfl
theorem dset_at (x : UInt8) : dset[x.toNat]? = some (.bool (isD x)) := by
  have := Lib.fold_at digs.data.toList (Array.replicate 256 (.bool false)) false x (by rw [Array.getElem?_replicate, if_pos x.toNat_lt])
  rw [Bool.false_or] at this
  exact this
theorem isD_bd {x : UInt8} (h : isD x = true) : 48 ≤ x.toNat ∧ x.toNat ≤ 57 := by
  unfold isD at h
  rw [List.contains_iff_mem] at h
  have : x = 48 ∨ x = 49 ∨ x = 50 ∨ x = 51 ∨ x = 52 ∨ x = 53 ∨ x = 54 ∨ x = 55 ∨ x = 56 ∨ x = 57 := by
    simpa [digs] using h
  rcases this with rfl | rfl | rfl | rfl | rfl | rfl | rfl | rfl | rfl | rfl <;> decide
theorem dset_size : dset.size = 256 := by
  unfold dset Lib.setCells
  simp [digs]
theorem dset_one : dset.all (·.oneCell') = true := by
  kernel_rfl
theorem st197_new (w : World) : st197 (.pointer (some ⟨w.heap.size, 0, none⟩)) (.agg dset) (w.alloc (.cells zset 197)) = .ok .skip (w.alloc (.cells dset 197)) := by
  simp only [st197, Sem.run_bind, run_storeAt_new (P := Tryz.prog) w 197 zset dset (by rw [dset_size]; kernel_rfl) (by rw [dset_size]; simp [zset]) dset_one]
  rfl
attribute [local go_sem ↓] exec_st197 exec_al197
set_option maxHeartbeats 2000000 in
theorem trim_any (s : ByteArray) (w : World) (hs : s.size ≤ 4294967296) : Calls Tryz.prog 83 #[.string s, .string digs] w fun e w' => ∃ t : ByteArray, e = .returned (.string t) ∧ (t.size = 0 → ∀ c, c ∈ s.data.toList → isD c = true) ∧ Chg No w w' := by
  have kd : digs.toList.isEmpty = false := by
    rw [← decide_eq_emptyBytes]
    decide
  by_cases h0 : s.size = 0
  · have k0 : s.toList.isEmpty = true := by
      rw [← decide_eq_emptyBytes]
      exact decide_eq_true (ByteArray.size_eq_zero_iff.1 h0)
    go_enter Tryz.func83, Tryz.ntmps83
    go_wp2_with fail
    go_ret
    refine ⟨s, rfl, fun _ c hc => ?_, Chg.refl No _⟩
    have : s.data.toList.length = 0 := by rw [Array.length_toList]; exact h0
    rw [List.length_eq_zero_iff.1 this] at hc
    cases hc
  · have k0 : s.toList.isEmpty = false := by
      rw [← decide_eq_emptyBytes]
      exact decide_eq_false fun e => h0 (by rw [e]; rfl)
    have hd : (digs.size : Int) = 10 := rfl
    have hasc : ∀ (j : Nat) b, digs.data.toList[j]? = some b → b.toNat < 128 := fun j b h => by
      have := isD_bd (x := b) (List.contains_iff_mem.2 (List.mem_of_getElem? h))
      omega
    go_enter Tryz.func83, Tryz.ntmps83
    go_wp2_with fail
    refine (Tryz.strings_makeASCIISet (fun w => by kernel_rfl) digs w (by decide) hasc).mono ?_
    rintro e w1 ⟨rfl, hw⟩
    have C1 : Chg No w w1 := by rw [hw]; exact (Chg.refl No w).alloc _
    have C2 := Lib.hid (C1.alloc (.cells dset 197))
    have hB := Blk.new w1 dset 197
    have hset : Tx.SetAt (w1.alloc (.cells dset 197)) w1.heap.size isD := fun x => by rw [hB.cell]; exact dset_at x
    have HS := Lib.hid hset
    clear hw C1 hB hset hasc
    rw [show Lib.setCells digs.data.toList = dset from rfl]
    go_wp2_with fail
    rw [show al197 w1 = .ok (.value (.pointer (some ⟨w1.heap.size, 0, none⟩))) (w1.alloc (.cells zset 197)) from rfl]
    go_wp2_with fail
    rw [st197_new]
    generalize w1.alloc (.cells dset 197) = w2 at *
    generalize w1.heap.size = B at *
    go_wp2_with fail
    refine (right_any s B isD w2 hs HS.out).mono ?_
    rintro e w3 ⟨t1, rfl, hz1, ht1, rfl⟩
    have H1 := Lib.hid ht1
    clear ht1
    go_wp2_with fail
    refine (left_any t1 B isD _ (by omega) HS.out).mono ?_
    rintro e w4 ⟨t2, rfl, hz2, ht2, rfl⟩
    have H2 := Lib.hid ht2
    clear ht2
    go_wp2_with fail
    go_ret
    refine ⟨t2, rfl, fun h c hc => ?_, C2.out⟩
    rcases H1.out c hc with h1 | h1
    · rcases H2.out c h1 with h2 | h2
      · have : t2.data.toList.length = 0 := by rw [Array.length_toList]; exact h
        rw [List.length_eq_zero_iff.1 this] at h2
        cases h2
      · exact h2
    · exact h1
end Go.Proofs.YtdgphoemjeakaaaGreatDoor.Tx
namespace Go.Proofs.YtdgphoemjeakaaaGreatDoor.Tx
open Go.RowKit K
set_option maxRecDepth 100000
theorem parse_go : ∀ (l : List UInt8) (k acc : Nat), (∀ c, c ∈ l → isD c = true) → l.length ≤ k → k ≤ 9 → acc < 10 ^ (9 - k) → ∃ u, Lib.parseUintM (2 ^ 64 - 1) acc l = .ok u ∧ u < 10 ^ 9
  | [], k, acc, _, _, h9, ha => ⟨acc, rfl, Nat.lt_of_lt_of_le ha (Nat.pow_le_pow_right (by omega) (by omega))⟩
  | c :: l, 0, acc, _, hl, _, _ => by simp at hl
  | c :: l, k + 1, acc, hd, hl, h9, ha => by
    obtain ⟨h1, h2⟩ := isD_bd (hd c List.mem_cons_self)
    have hb : 10 ^ (9 - k) = 10 * 10 ^ (9 - (k + 1)) := by rw [show 9 - k = (9 - (k + 1)) + 1 by omega, Nat.pow_succ, Nat.mul_comm]
    have hm : 10 ^ (9 - (k + 1)) ≤ 10 ^ 9 := Nat.pow_le_pow_right (by omega) (by omega)
    rw [Lib.parseUintM, if_pos ⟨h1, h2⟩, if_neg (by omega), if_neg (by omega)]
    exact parse_go l k _ (fun x hx => hd x (List.mem_cons_of_mem _ hx)) (by simp at hl; omega) (by omega) (by omega)
theorem parse_digits {l : List UInt8} (hd : ∀ c, c ∈ l → isD c = true) (h1 : 1 ≤ l.length) (h9 : l.length ≤ 9) : ∃ v, Lib.parseIntB 64 l = .ok v := by
  obtain ⟨u, hu, hlt⟩ := parse_go l 9 0 hd h9 (by omega) (by decide)
  cases l with
  | nil => simp at h1
  | cons c r =>
    obtain ⟨a1, a2⟩ := isD_bd (hd c List.mem_cons_self)
    refine ⟨(u : Int), ?_⟩
    unfold Lib.parseIntB
    dsimp only
    rw [if_neg (by omega)]
    unfold Lib.parseUintB
    rw [if_neg (by simp), hu]
    dsimp only
    rw [if_neg (by omega), if_neg (by omega), if_neg (by omega)]
theorem Chg.bytes (w : World) (e : TypeId) (t : ByteArray) : Chg No w (Lib.bytesWorld w e t) := Chg.of_below (Lib.bytesWorld_below _ _ _)
set_option maxHeartbeats 2000000 in
theorem digits_any (s : ByteArray) (m : Int) (w : World) (hs : s.size ≤ 4294967280) (hm : m ≤ 9) : Calls Tryz.prog 127 #[.string s, .int .i64 m] w fun e w' => ∃ (n : Int) (b : Bool), e = .returned (.tuple #[.int .i64 n, .bool b]) ∧ (b = true → (s.size : Int) ≤ m) ∧ Chg No w w' := by
  by_cases h1 : s.size < 1
  · have k1 : decide ((s.size : Int) < 1) = true := decide_eq_true (by omega)
    go_enter Tryz.func127, Tryz.ntmps127
    go_wp2_with fail
    go_ret2
    exact ⟨_, false, rfl, (fun h => nomatch h), Chg.refl No _⟩
  · have k1 : decide ((s.size : Int) < 1) = false := decide_eq_false (by omega)
    by_cases h2 : m < s.size
    · have k2 : decide (m < (s.size : Int)) = true := decide_eq_true h2
      go_enter Tryz.func127, Tryz.ntmps127
      go_wp2_with fail
      go_ret2
      exact ⟨_, false, rfl, (fun h => nomatch h), Chg.refl No _⟩
    · have k2 : decide (m < (s.size : Int)) = false := decide_eq_false h2
      go_enter Tryz.func127, Tryz.ntmps127
      go_wp2_with fail
      refine (trim_any s w (by omega)).mono ?_
      rintro e w1 ⟨t, rfl, ht, hc⟩
      have HC := Lib.hid hc
      have HT := Lib.hid ht
      clear hc ht
      by_cases h0 : t.size = 0
      · have k0 : t.toList.isEmpty = true := by
          rw [← decide_eq_emptyBytes]
          exact decide_eq_true (ByteArray.size_eq_zero_iff.1 h0)
        obtain ⟨v, hv⟩ := parse_digits (HT.out h0) (by rw [← Lib.size_eq]; omega) (by rw [← Lib.size_eq]; omega)
        have HV := Lib.hid hv
        clear hv h0
        go_wp2_with fail
        refine (Tryz.strconv_ParseInt_10_at64_ok s (by omega) v HV.out w1).mono ?_
        rintro e w2 ⟨rfl, hw⟩
        have C2 : Hid (Chg No w w2) := by
          rcases hw with rfl | ⟨x, rfl⟩
          · exact HC.out
          · exact HC.out.trans (Chg.bytes _ _ _)
        clear hw
        go_wp2_with fail
        go_ret2
        exact ⟨_, true, rfl, fun _ => by omega, C2.out⟩
      · have k0 : t.toList.isEmpty = false := by
          rw [← decide_eq_emptyBytes]
          exact decide_eq_false fun e => h0 (by rw [e]; rfl)
        go_wp2_with fail
        go_ret2
        exact ⟨_, false, rfl, (fun h => nomatch h), HC.out⟩
end Go.Proofs.YtdgphoemjeakaaaGreatDoor.Tx
namespace Go.Proofs.YtdgphoemjeakaaaGreatDoor.Tx
open Go.RowKit K
set_option maxRecDepth 100000
theorem cut_len (s sep : List UInt8) : (Lib.cut s sep).1.length ≤ s.length ∧ (Lib.cut s sep).2.1.length ≤ s.length := by
  unfold Lib.cut
  split
  · exact ⟨by simp; omega, by simp⟩
  · exact ⟨Nat.le_refl _, Nat.zero_le _⟩
theorem pre_len (s p : List UInt8) : (Lib.trimPrefix s p).length ≤ s.length := by
  unfold Lib.trimPrefix
  split
  · simp
  · exact Nat.le_refl _
theorem mk_size (l : List UInt8) : (⟨l.toArray⟩ : ByteArray).size = l.length := by
  rw [Lib.size_eq]
set_option maxHeartbeats 4000000 in
theorem number_any (s : ByteArray) (w : World) (hs : s.size ≤ 4294967280) (m : Int) (hm : w.cell? ⟨0, 0, none⟩ = some (.int .i64 m)) : Calls Tryz.prog 126 #[.string s] w fun e w' => ∃ (n : Int) (b : Bool), e = .returned (.tuple #[.int .i64 n, .bool b]) ∧ Chg No w w' := by
  have SH := Lib.hid hm
  clear hm
  go_enter Tryz.func126, Tryz.ntmps126
  go_wp2_with fail
  refine (Tryz.strings_CutPrefix s _ w).mono ?_
  rintro e w1 ⟨rfl, rfl⟩
  have z1 : (⟨(Lib.trimPrefix s.data.toList (⟨#[45]⟩ : ByteArray).data.toList).toArray⟩ : ByteArray).size ≤ s.size := by rw [mk_size, Lib.size_eq]; exact pre_len _ _
  generalize (⟨(Lib.trimPrefix s.data.toList (⟨#[45]⟩ : ByteArray).data.toList).toArray⟩ : ByteArray) = s1 at *
  generalize Lib.hasPrefix s.data.toList (⟨#[45]⟩ : ByteArray).data.toList = bl at *
  go_wp2_with fail
  refine (Tryz.strings_Cut s1 _ m _ (by omega) SH.out).mono ?_
  rintro e w2 ⟨rfl, nd, hw⟩
  have z2 := cut_len s1.data.toList (⟨#[46]⟩ : ByteArray).data.toList
  rw [← Lib.size_eq, ← mk_size, ← mk_size] at z2
  generalize (⟨(Lib.cut s1.data.toList (⟨#[46]⟩ : ByteArray).data.toList).1.toArray⟩ : ByteArray) = hd at *
  generalize (⟨(Lib.cut s1.data.toList (⟨#[46]⟩ : ByteArray).data.toList).2.1.toArray⟩ : ByteArray) = tl at *
  generalize (Lib.cut s1.data.toList (⟨#[46]⟩ : ByteArray).data.toList).2.2 = pt at *
  obtain ⟨z3, z4⟩ := z2
  have C2 : Hid (Chg No w1 w2) := by rw [hw]; exact (Chg.refl No _).drewN _
  clear hw
  go_wp2_with fail
  refine (digits_any hd 9 w2 (by omega) (by decide)).mono ?_
  rintro e w3 ⟨n1, b1, rfl, -, hc3⟩
  have C3 := Lib.hid (C2.out.trans hc3)
  clear hc3
  cases b1 with
  | false =>
    go_wp2_with fail
    go_ret2
    exact ⟨_, _, rfl, C3.out⟩
  | true =>
    cases pt with
    | false =>
      cases bl
      all_goals
        go_wp2_with fail
        go_ret2
        exact ⟨_, _, rfl, C3.out⟩
    | true =>
      go_wp2_with fail
      refine (digits_any tl 3 w3 (by omega) (by decide)).mono ?_
      rintro e w4 ⟨n2, b2, rfl, hb2, hc4⟩
      have C4 := Lib.hid (C3.out.trans hc4)
      clear hc4
      cases b2 with
      | false =>
        go_wp2_with fail
        go_ret2
        exact ⟨_, _, rfl, C4.out⟩
      | true =>
        have hz := hb2 rfl
        clear hb2
        go_wp2_with fail
        go_loopw [10, 43] (fun x i wr => ∃ (k : Nat) (n3 : Int), (k : Int) + tl.size ≤ 3 ∧ i = .int .i64 k ∧ x = .int .i64 n3 ∧ wr = w4) (fun _ i _ => 3 - (intOf i).toNat)
        case atStart => exact ⟨0, n2, by omega, rfl, rfl, rfl⟩
        case round =>
          obtain ⟨k, n3, hk, rfl, rfl, rfl⟩ := hrel
          by_cases hlt : (k : Int) < 3 - tl.size
          · go_wp2_with fail
            go_roundw
            case rel => exact ⟨k + 1, _, by omega, by go_num, rfl, trivial⟩
            case measure => simp [intOf]; omega
          · cases bl
            all_goals
              go_wp2_with fail
              go_ret2
              exact ⟨⟨_, .inr rfl⟩, C4.out⟩
end Go.Proofs.YtdgphoemjeakaaaGreatDoor.Tx
namespace Go.Proofs.YtdgphoemjeakaaaGreatDoor.Tx
open Go.RowKit K Mg
set_option maxRecDepth 100000
theorem cellk {w w' : World} (c : Chg No w w') {x : Addr} {v : Value} (h : w.cell? x = some v) : w'.cell? x = some v :=
  (World.cell?_of_block (c.block x.block (World.block_lt_of_cell? w _ h) fun h => h)).trans h
def upd (v : Nat → Int) (f : Nat) (n : Int) : Nat → Int := fun i => if i = f then n else v i
theorem cf_at (v : Nat → Int) : ∀ f, f < 20 → (cf v)[f]? = some (.int .i64 (v f))
  | 0, _ => rfl
  | 1, _ => rfl
  | 2, _ => rfl
  | 3, _ => rfl
  | 4, _ => rfl
  | 5, _ => rfl
  | 6, _ => rfl
  | 7, _ => rfl
  | 8, _ => rfl
  | 9, _ => rfl
  | 10, _ => rfl
  | 11, _ => rfl
  | 12, _ => rfl
  | 13, _ => rfl
  | 14, _ => rfl
  | 15, _ => rfl
  | 16, _ => rfl
  | 17, _ => rfl
  | 18, _ => rfl
  | 19, _ => rfl
  | n + 20, h => absurd h (by omega)
theorem cf_set (v : Nat → Int) (x : Int) : ∀ f, f < 20 → (cf v).setIfInBounds f (.int .i64 x) = cf (upd v f x)
  | 0, _ => rfl
  | 1, _ => rfl
  | 2, _ => rfl
  | 3, _ => rfl
  | 4, _ => rfl
  | 5, _ => rfl
  | 6, _ => rfl
  | 7, _ => rfl
  | 8, _ => rfl
  | 9, _ => rfl
  | 10, _ => rfl
  | 11, _ => rfl
  | 12, _ => rfl
  | 13, _ => rfl
  | 14, _ => rfl
  | 15, _ => rfl
  | 16, _ => rfl
  | 17, _ => rfl
  | 18, _ => rfl
  | 19, _ => rfl
  | n + 20, h => absurd h (by omega)
def pty (f : Nat) : TypeId := if f ∈ [0, 1, 5, 6, 7, 13] then 202 else 203
@[local go_sem ↓] theorem ta202 (v : Value) (w : World) : (Instr.typeAssert (.iface 202 v) 20 202 true).run Tryz.prog w = .ok (.tuple #[v, .bool true]) w := by kernel_rfl
@[local go_sem ↓] theorem ta203n (v : Value) (w : World) : (Instr.typeAssert (.iface 203 v) 20 202 true).run Tryz.prog w = .ok (.tuple #[.pointer none, .bool false]) w := by kernel_rfl
@[local go_sem ↓] theorem ta203 (v : Value) (w : World) : (Instr.typeAssert (.iface 203 v) 20 203 false).run Tryz.prog w = .ok v w := by kernel_rfl
def Turned (B : Nat) (w w' : World) : Prop := Chg (fun k => k = B) w w' ∧ ∃ v, Blk w' B (cf v) 24
set_option maxHeartbeats 2000000 in
theorem set_any (nm val : ByteArray) (f B : Nat) (hf : f < 20) (v : Nat → Int) (w : World) (hb : Blk w B (cf v) 24) (hs : val.size ≤ 4294967280) (m : Int) (hm : w.cell? ⟨0, 0, none⟩ = some (.int .i64 m)) :
    Calls Tryz.prog 86 #[.agg #[.string nm, .iface (pty f) (.pointer (some ⟨B, f, none⟩))], .string val] w fun e w' => ∃ b : Bool, e = .returned (.bool b) ∧ Turned B w w' := by
  have SH := Lib.hid hm
  have HB := Lib.hid hb
  clear hm hb
  have C0 : Hid (Chg No w (w.alloc (.cells #[.string nm, .iface (pty f) (.pointer (some ⟨B, f, none⟩))] 154))) := (Chg.refl No w).alloc _
  by_cases hp : f ∈ [0, 1, 5, 6, 7, 13]
  · have ht : pty f = 202 := if_pos hp
    rw [ht] at C0 ⊢
    have c1 : (w.alloc (.cells #[.string nm, .iface 202 (.pointer (some ⟨B, f, none⟩))] 154)).cell? ⟨0, 0, none⟩ = some (.int .i64 m) := cellk C0.out SH.out
    have H1 := Lib.hid c1
    clear c1
    go_enter Tryz.func86, Tryz.ntmps86
    go_wp2_with fail
    refine (number_any val _ hs m H1.out).mono ?_
    rintro e w1 ⟨n, b, rfl, hc⟩
    have C1 := Lib.hid (C0.out.trans hc)
    clear hc
    cases b with
    | false =>
      go_wp2_with fail
      go_ret
      exact ⟨false, rfl, C1.out.of_no, v, HB.out.kept C1.out⟩
    | true =>
      have hb1 := HB.out.kept C1.out
      have cB : w1.cell? ⟨B, f, none⟩ = some (.int .i64 (v f)) := by rw [hb1.cell]; exact cf_at v f hf
      have fB := hb1.free f
      have HB1 := Lib.hid hb1
      clear hb1
      go_wp2_with fail
      go_ret
      refine ⟨true, rfl, Chg.set (S := fun k => k = B) (a := ⟨B, f, none⟩) C1.out.of_no (fun _ => rfl) _, upd v f n, ?_⟩
      rw [← cf_set v _ f hf]
      exact HB1.out.set f _
  · have ht : pty f = 203 := if_neg hp
    rw [ht] at C0 ⊢
    have c1 : (w.alloc (.cells #[.string nm, .iface 203 (.pointer (some ⟨B, f, none⟩))] 154)).cell? ⟨0, 0, none⟩ = some (.int .i64 m) := cellk C0.out SH.out
    have n1 : (w.alloc (.cells #[.string nm, .iface 203 (.pointer (some ⟨B, f, none⟩))] 154)).cell? ⟨w.heap.size, 1, none⟩ = some (.iface 203 (.pointer (some ⟨B, f, none⟩))) := (Blk.new w _ 154).cell 1
    have H1 := Lib.hid c1
    have N1 := Lib.hid n1
    clear c1 n1
    go_enter Tryz.func86, Tryz.ntmps86
    go_wp2_with fail
    refine (digits_any val 6 _ hs (by decide)).mono ?_
    rintro e w1 ⟨n, b, rfl, -, hc⟩
    have C1 := Lib.hid (C0.out.trans hc)
    have n2 : w1.cell? ⟨w.heap.size, 1, none⟩ = some (.iface 203 (.pointer (some ⟨B, f, none⟩))) := cellk hc N1.out
    clear hc
    cases b with
    | false =>
      go_wp2_with fail
      go_ret
      exact ⟨false, rfl, C1.out.of_no, v, HB.out.kept C1.out⟩
    | true =>
      have hb1 := HB.out.kept C1.out
      have cB : w1.cell? ⟨B, f, none⟩ = some (.int .i64 (v f)) := by rw [hb1.cell]; exact cf_at v f hf
      have fB := hb1.free f
      have HB1 := Lib.hid hb1
      clear hb1
      go_wp2_with fail
      go_ret
      refine ⟨true, rfl, Chg.set (S := fun k => k = B) (a := ⟨B, f, none⟩) C1.out.of_no (fun _ => rfl) _, upd v f n, ?_⟩
      rw [← cf_set v _ f hf]
      exact HB1.out.set f _
end Go.Proofs.YtdgphoemjeakaaaGreatDoor.Tx
