/- Sets of blocks, what turns and what does not; slices that are owned, at any offset. Closed facts of the program: type assertions, rows of the table of types. Parts of a whole that own blocks apart from each other. slices.IndexFunc, slices.DeleteFunc, slices.Delete over slices of any values. -/
import Derived.OneCell
import Derived.WalkKit
import Derived.WalkSpells
import Derived.WalkLawsBesides
import Derived.Deep.QuietTactic
import Derived.Deep.RegionHeld3
import Derived.Deep.RegionLaw
import Derived.Deep.DeepCutAuto
import Derived.Deep.CutBlock
import Derived.Deep.DeepFit
import Derived.BigQuiet
import Derived.RegionTactic
import Derived.Deep.RegionWith
import Derived.OwnWalk
import Derived.Below
import Derived.Laws.Rows
import Derived.Laws.AppendOwn
import Derived.Lib.Hide
import Derived.Test.YtdgphoemjeakaaaGreatDoorProg
import Derived.Shelf.Abstract
import Derived.Lib.SliceRun
import Derived.Deep.LoopGhost
namespace Go.Proofs.YtdgphoemjeakaaaGreatDoor.K
open Go.RowKit
def Blk (w : World) (g : Nat) (cs : Array Value) (t : TypeId) : Prop := w.heap[g]? = some (.cells cs t (0, 0))
structure Chg (S : Nat → Prop) (w w' : World) : Prop where
  os : w'.os = w.os
  tape : w'.tape = w.tape
  output : w'.output = w.output
  size : w.heap.size ≤ w'.heap.size
  block : ∀ k, k < w.heap.size → ¬ S k → w'.heap[k]? = w.heap[k]?
def No : Nat → Prop := fun _ => False
def nx (S : Nat → Prop) (w w' : World) : Nat → Prop := fun k => (S k ∨ w.heap.size ≤ k) ∧ k < w'.heap.size
section
variable {S T : Nat → Prop} {w w' w'' : World}
theorem Chg.refl (S : Nat → Prop) (w : World) : Chg S w w := ⟨rfl, rfl, rfl, Nat.le_refl _, fun _ _ _ => rfl⟩
theorem Chg.trans (h : Chg S w w') (k : Chg S w' w'') : Chg S w w'' :=
  ⟨k.os.trans h.os, k.tape.trans h.tape, k.output.trans h.output, Nat.le_trans h.size k.size, fun i hi hS => (k.block i (Nat.lt_of_lt_of_le hi h.size) hS).trans (h.block i hi hS)⟩
theorem Chg.step (h : Chg S w w') (k : Chg T w' w'') (hs : ∀ k, k < w.heap.size → T k → S k) : Chg S w w'' :=
  ⟨k.os.trans h.os, k.tape.trans h.tape, k.output.trans h.output, Nat.le_trans h.size k.size, fun i hi hS => (k.block i (Nat.lt_of_lt_of_le hi h.size) (fun hT => hS (hs i hi hT))).trans (h.block i hi hS)⟩
theorem Chg.mono (h : Chg S w w') (hs : ∀ k, k < w.heap.size → S k → T k) : Chg T w w' := ⟨h.os, h.tape, h.output, h.size, fun k hk hT => h.block k hk fun hS => hT (hs k hk hS)⟩
theorem Chg.of_no (h : Chg No w w') : Chg S w w' := h.mono fun _ _ h => h.elim
theorem Chg.drew (h : Chg S w w') : Chg S w w'.drew := ⟨h.os, h.tape, h.output, h.size, h.block⟩
theorem Chg.drewN (h : Chg S w w') (n : Nat) : Chg S w (w'.drewN n) := ⟨h.os, h.tape, h.output, h.size, h.block⟩
theorem Chg.alloc (h : Chg S w w') (o : Obj) : Chg S w (w'.alloc o) :=
  ⟨h.os, h.tape, h.output, Nat.le_trans h.size (by simp), fun k hk hS => (Below.heap_alloc w' o k (Nat.lt_of_lt_of_le hk h.size)).trans (h.block k hk hS)⟩
theorem Chg.set (h : Chg S w w') {a : Addr} (ha : a.block < w.heap.size → S a.block) (v : Value) : Chg S w (w'.setCell a v) :=
  ⟨h.os, h.tape, h.output, Nat.le_trans h.size (by simp [World.setCell]), fun k hk hS => (Below.heap_setCell w' a v k (fun e => hS (e ▸ ha (e ▸ hk)))).trans (h.block k hk hS)⟩
theorem Chg.setRow (h : Chg S w w') {g : Nat} (ha : g < w.heap.size → S g) (cs : Array Value) : Chg S w (w'.setRow g cs) :=
  ⟨h.os, h.tape, h.output, Nat.le_trans h.size (by simp), fun k hk hS => (setRow_other w' g k cs (fun e => hS (e ▸ ha (e ▸ hk)))).trans (h.block k hk hS)⟩
theorem Chg.below (h : Chg S w w') {B : Nat} (hs : ∀ k, k < B → ¬ S k) (hB : B ≤ w.heap.size) : Below B w w' :=
  ⟨h.os, h.tape, h.output, h.size, fun k hk => h.block k (Nat.lt_of_lt_of_le hk hB) (hs k hk)⟩
theorem Chg.of_grown {r : Option Nat} (hg : w.grownBy w' r) (hr : ∀ k, r = some k → S k) : Chg S w w' :=
  ⟨hg.os, hg.tape, hg.output, hg.size, fun k hk hS => hg.block k hk fun e => hS (hr k e.symm)⟩
theorem Chg.of_below (hb : Below w.heap.size w w') : Chg S w w' := ⟨hb.os, hb.tape, hb.output, hb.size, fun k hk _ => hb.block k hk⟩
theorem Chg.to_below (h : Chg No w w') : Below w.heap.size w w' := h.below (fun _ _ h => h) (Nat.le_refl _)
theorem Chg.next (h : Chg S w w') (k : Chg (nx S w w') w' w'') : Chg S w w'' := h.step k fun i hi hT => hT.1.resolve_right (by omega)
theorem Chg.after (h : Chg No w w') (k : Chg S w' w'') : Chg S w w'' := h.of_no.trans k
theorem nx_nx {k : Nat} (h : w.heap.size ≤ w'.heap.size) (hk : nx (nx S w w') w' w'' k) : nx S w w'' k := by
  obtain ⟨h1 | h1, h2⟩ := hk
  · exact ⟨h1.1, h2⟩
  · exact ⟨.inr (by omega), h2⟩
theorem nx_trans {w1 w2 : World} {k : Nat} (h : w.heap.size ≤ w1.heap.size) (hk : nx (nx S w w') w1 w2 k) : nx S w w2 k := by
  obtain ⟨h1 | h1, h2⟩ := hk
  · exact ⟨h1.1, h2⟩
  · exact ⟨.inr (by omega), h2⟩
theorem nx_no {k : Nat} (h : w.heap.size ≤ w'.heap.size) (hk : nx S w' w'' k) : nx S w w'' k := ⟨hk.1.imp_right (by omega), hk.2⟩
theorem nx_le {k : Nat} (h : w'.heap.size ≤ w''.heap.size) (hk : nx S w w' k) : nx S w w'' k := ⟨hk.1, by have := hk.2; omega⟩
theorem nx_bd {k : Nat} (h : nx S w w' k) : k < w'.heap.size := h.2
theorem Blk.lt {g : Nat} {cs : Array Value} {t : TypeId} (h : Blk w g cs t) : g < w.heap.size := lt_of_block h
theorem Blk.cell {g : Nat} {cs : Array Value} {t : TypeId} (h : Blk w g cs t) (j : Nat) : w.cell? ⟨g, j, none⟩ = cs[j]? := cell_of_row w g j cs t (0, 0) h
theorem Blk.free {g : Nat} {cs : Array Value} {t : TypeId} (h : Blk w g cs t) (j : Nat) : w.frozen? ⟨g, j, none⟩ = false := frozen_of_row w g j cs t h
theorem Blk.drewN {g : Nat} {cs : Array Value} {t : TypeId} (h : Blk w g cs t) (n : Nat) : Blk (w.drewN n) g cs t := h
theorem Blk.set {g : Nat} {cs : Array Value} {t : TypeId} (h : Blk w g cs t) (j : Nat) (v : Value) : Blk (w.setCell ⟨g, j, none⟩ v) g (cs.setIfInBounds j v) t := by
  unfold Blk at *
  rw [setCell_eq_setRow w g j cs t (0, 0) v h]
  exact setRow_heap w g cs _ t _ h
theorem Blk.other {g p j : Nat} {cs : Array Value} {t : TypeId} (h : Blk w g cs t) (hn : g ≠ p) (v : Value) : Blk (w.setCell ⟨p, j, none⟩ v) g cs t := by
  unfold Blk at *
  rw [Below.heap_setCell _ _ _ _ hn]; exact h
theorem Blk.alloc {g : Nat} {cs : Array Value} {t : TypeId} (h : Blk w g cs t) (o : Obj) : Blk (w.alloc o) g cs t := by
  unfold Blk at *
  rw [Below.heap_alloc _ _ _ (lt_of_block h)]; exact h
theorem Blk.new (w : World) (cs : Array Value) (t : TypeId) : Blk (w.alloc (.cells cs t)) w.heap.size cs t := heap_alloc_new w _
theorem Blk.chg {g : Nat} {cs : Array Value} {t : TypeId} (h : Blk w g cs t) (c : Chg S w w') (hk : ¬ S g) : Blk w' g cs t := by
  unfold Blk at *
  rw [c.block g (lt_of_block h) hk]; exact h
theorem Blk.kept {g : Nat} {cs : Array Value} {t : TypeId} (h : Blk w g cs t) (c : Chg No w w') : Blk w' g cs t := h.chg c fun h => h
theorem Blk.below {g : Nat} {cs : Array Value} {t : TypeId} (h : Blk w g cs t) {B : Nat} (hb : Below B w w') (hk : g < B) : Blk w' g cs t := by
  unfold Blk at *
  rw [hb.block g hk]; exact h
theorem Blk.ne {g g' : Nat} {cs cs' : Array Value} {t t' : TypeId} (h : Blk w g cs t) (h' : Blk w g' cs' t') (ht : t ≠ t') : g ≠ g' := by
  rintro rfl
  unfold Blk at *
  rw [h] at h'
  injection h' with h'
  injection h' with _ h2
  exact ht h2
theorem Blk.same {g : Nat} {cs cs' : Array Value} {t t' : TypeId} (h : Blk w g cs t) (h' : Blk w g cs' t') : cs = cs' := by
  unfold Blk at *
  rw [h] at h'
  injection h' with h'
  injection h' with h1 _
structure Own (w : World) (S : Nat → Prop) (e : TypeId) (size : Nat) (v : Value) (n : Nat) (xs : List Value) : Prop where
  len : xs.length = n * size
  at_ : (v = .slice none 0 0 ∧ n = 0) ∨ ∃ g o cap cur, v = .slice (some ⟨g, o, none⟩) n cap ∧ S g ∧ Blk w g cur e ∧ n ≤ cap ∧ cap ≤ maxLen ∧ o + cap * size ≤ cur.size ∧ (cur.toList.drop o).take (n * size) = xs
variable {e : TypeId} {size n : Nat} {v : Value} {xs : List Value}
theorem Own.nil (w : World) (S : Nat → Prop) (e : TypeId) (size : Nat) : Own w S e size (.slice none 0 0) 0 [] := ⟨by simp, .inl ⟨rfl, rfl⟩⟩
theorem Own.chg (h : Own w S e size v n xs) (c : Chg T w w') (hd : ∀ k, S k → T k → False) : Own w' S e size v n xs := by
  refine ⟨h.len, h.at_.imp_right ?_⟩
  rintro ⟨g, o, cap, cur, hv, hS, hb, h1⟩
  exact ⟨g, o, cap, cur, hv, hS, hb.chg c (hd g hS), h1⟩
theorem Own.kept (h : Own w S e size v n xs) (c : Chg No w w') : Own w' S e size v n xs := h.chg c fun _ _ h => h
theorem Own.mono (h : Own w S e size v n xs) (hs : ∀ k, k < w.heap.size → S k → T k) : Own w T e size v n xs := by
  refine ⟨h.len, h.at_.imp_right ?_⟩
  rintro ⟨g, o, cap, cur, hv, hS, hb, h1⟩
  exact ⟨g, o, cap, cur, hv, hs g hb.lt hS, hb, h1⟩
theorem Own.alloc (h : Own w S e size v n xs) (o : Obj) : Own (w.alloc o) S e size v n xs := h.kept ((Chg.refl No w).alloc o)
theorem Own.other {p j : Nat} {cs : Array Value} {t : TypeId} (h : Own w S e size v n xs) (hb : Blk w p cs t) (ht : e ≠ t) (u : Value) : Own (w.setCell ⟨p, j, none⟩ u) S e size v n xs := by
  refine ⟨h.len, h.at_.imp_right ?_⟩
  rintro ⟨g, o, cap, cur, hv, hS, hg, h1⟩
  exact ⟨g, o, cap, cur, hv, hS, hg.other (hg.ne hb ht) u, h1⟩
theorem Own.cellAt {g o cap : Nat} (h : Own w S e size (.slice (some ⟨g, o, none⟩) n cap) n xs) (j : Nat) (hj : j < n * size) : w.cell? ⟨g, o + j, none⟩ = xs[j]? := by
  rcases h.at_ with ⟨h1, _⟩ | ⟨g', o', cap', cur, hv, hS, hb, h1, h2, h3, h4⟩
  · injection h1 with h1; cases h1
  · injection hv with hv _ hc
    injection hv with hv
    injection hv with hg ho
    subst hg ho hc
    rw [hb.cell, ← h4, List.getElem?_take, if_pos hj, List.getElem?_drop, Array.getElem?_toList]
theorem Own.freeAt {g o cap : Nat} (h : Own w S e size (.slice (some ⟨g, o, none⟩) n cap) n xs) (j : Nat) : w.frozen? ⟨g, j, none⟩ = false := by
  rcases h.at_ with ⟨h1, _⟩ | ⟨g', o', cap', cur, hv, hS, hb, h1, h2, h3, h4⟩
  · injection h1 with h1; cases h1
  · injection hv with hv _ hc
    injection hv with hv
    injection hv with hg ho
    subst hg
    exact hb.free j
theorem Own.form (h : Own w S e size v n xs) : (v = .slice none 0 0 ∧ n = 0 ∧ xs = []) ∨ ∃ g o cap, v = .slice (some ⟨g, o, none⟩) n cap ∧ S g ∧ g < w.heap.size ∧ n ≤ cap ∧ cap ≤ maxLen := by
  rcases h.at_ with ⟨h1, h2⟩ | ⟨g, o, cap, cur, hv, hS, hb, h1, h2, h3, h4⟩
  · exact .inl ⟨h1, h2, List.eq_nil_of_length_eq_zero (by rw [h.len, h2]; simp)⟩
  · exact .inr ⟨g, o, cap, hv, hS, hb.lt, h1, h2⟩
theorem Own.blk {g o cap : Nat} (h : Own w S e size (.slice (some ⟨g, o, none⟩) n cap) n xs) : S g ∧ g < w.heap.size ∧ ∃ cur, Blk w g cur e ∧ n ≤ cap ∧ cap ≤ maxLen ∧ o + cap * size ≤ cur.size ∧ (cur.toList.drop o).take (n * size) = xs := by
  rcases h.at_ with ⟨h1, _⟩ | ⟨g', o', cap', cur, hv, hS, hb, h1, h2, h3, h4⟩
  · injection h1 with h1; cases h1
  · injection hv with hv _ hc
    injection hv with hv
    injection hv with hg ho
    subst hg ho hc
    exact ⟨hS, hb.lt, cur, hb, h1, h2, h3, h4⟩
theorem Own.drop {g o cap : Nat} (h : Own w S e size (.slice (some ⟨g, o, none⟩) n cap) n xs) (k : Nat) (hk : k ≤ n) : Own w S e size (.slice (some ⟨g, o + k * size, none⟩) (n - k) (cap - k)) (n - k) (xs.drop (k * size)) := by
  obtain ⟨hS, hl, cur, hb, h1, h2, h3, h4⟩ := h.blk
  have e1 : (n - k) * size = n * size - k * size := Nat.sub_mul n k size
  have e2 : (cap - k) * size = cap * size - k * size := Nat.sub_mul cap k size
  have e3 : k * size ≤ n * size := Nat.mul_le_mul_right _ hk
  have e4 : n * size ≤ cap * size := Nat.mul_le_mul_right _ h1
  refine ⟨by rw [List.length_drop, h.len, e1], .inr ⟨g, o + k * size, cap - k, cur, rfl, hS, hb, by omega, by omega, by omega, ?_⟩⟩
  rw [← h4, List.drop_take, List.drop_drop, e1]
theorem Own.take {g o cap : Nat} (h : Own w S e size (.slice (some ⟨g, o, none⟩) n cap) n xs) (k : Nat) (hk : k ≤ n) : Own w S e size (.slice (some ⟨g, o, none⟩) k cap) k (xs.take (k * size)) := by
  obtain ⟨hS, hl, cur, hb, h1, h2, h3, h4⟩ := h.blk
  have e3 : k * size ≤ n * size := Nat.mul_le_mul_right _ hk
  refine ⟨by rw [List.length_take, h.len]; omega, .inr ⟨g, o, cap, cur, rfl, hS, hb, by omega, by omega, by omega, ?_⟩⟩
  rw [← h4, List.take_take, Nat.min_eq_left e3]
theorem Own.put {g o cap : Nat} (h : Own w S e size (.slice (some ⟨g, o, none⟩) n cap) n xs) (j : Nat) (hj : j < n * size) (u : Value) : Own (w.setCell ⟨g, o + j, none⟩ u) S e size (.slice (some ⟨g, o, none⟩) n cap) n (xs.set j u) := by
  obtain ⟨hS, hl, cur, hb, h1, h2, h3, h4⟩ := h.blk
  have e4 : n * size ≤ cap * size := Nat.mul_le_mul_right _ h1
  refine ⟨by rw [List.length_set, h.len], .inr ⟨g, o, cap, _, rfl, hS, hb.set (o + j) u, by omega, by omega, by simpa using h3, ?_⟩⟩
  rw [← h4, Array.toList_setIfInBounds]
  apply List.ext_getElem?
  intro t
  by_cases ht : t < n * size
  · rw [List.getElem?_take, if_pos ht, List.getElem?_drop, List.getElem?_set, List.getElem?_set]
    by_cases he : j = t
    · subst he
      rw [if_pos rfl, if_pos rfl, if_pos (by simp; omega), if_pos (by simp; omega)]
    · rw [if_neg (by omega), if_neg he, List.getElem?_take, if_pos ht, List.getElem?_drop]
  · rw [List.getElem?_eq_none (by simp; omega), List.getElem?_eq_none (by simp; omega)]
end
theorem run_app {P : Program} (w : World) (S : Nat → Prop) (t ty e : TypeId) (i : TypeInfo) (z : Value) (size bytes : Nat) (ht : P.underlying t = some (.slice e)) (hi : P.info? e = some i) (hz : i.zero = some z)
    (hsize : i.size = size) (hby : i.bytes = bytes) (hzs : z.cells.size = size)
    (v : Value) (n : Nat) (xs : List Value) (hown : Own w S e size v n xs)
    (a : Addr) (m c : Nat) (news : List Value) (hm0 : 0 < m) (hl : news.length = m * size) (hnews : ∀ j u, news[j]? = some u → w.cell? (a.add j) = some u) (h1 : ∀ u ∈ news, u.oneCell' = true)
    (h63 : n + m ≤ maxLen) (hbytes : (n + m) * bytes ≤ 140737488355328) :
    ∃ v' w', (Builtin.append_ #[t, t] ty #[v, .slice (some a) m c]).run P w = .ok v' w' ∧ Own w' (nx S w w') e size v' (n + m) (xs ++ news) ∧ Chg S w w' := by
  subst hsize
  subst hby
  have hlen : (xs ++ news).length = (n + m) * i.size := by rw [List.length_append, hown.len, hl, Nat.add_mul]
  have grown : ∀ (old : Nat), old < n + m →
      Own (w.drew.alloc (.cells (xs.toArray ++ news.toArray ++ Builtin.zeroCells z.cells (grownCap w (n + m) old e - (n + m))) e)) (nx S w (w.drew.alloc (.cells (xs.toArray ++ news.toArray ++ Builtin.zeroCells z.cells (grownCap w (n + m) old e - (n + m))) e))) e i.size
        (.slice (some ⟨w.heap.size, 0, none⟩) (n + m) (grownCap w (n + m) old e)) (n + m) (xs ++ news) ∧
      Chg S w (w.drew.alloc (.cells (xs.toArray ++ news.toArray ++ Builtin.zeroCells z.cells (grownCap w (n + m) old e - (n + m))) e)) := by
    intro old ho
    have hge := grownCap_ge w (n + m) old e
    have hcm : grownCap w (n + m) old e ≤ maxLen := grownCap_le_maxLen w (n + m) old e h63
    refine ⟨⟨hlen, .inr ⟨w.heap.size, 0, _, _, rfl, ⟨.inr (Nat.le_refl _), by simp⟩, Blk.new w.drew _ _, hge, hcm, ?_, ?_⟩⟩, ((Chg.refl S w).drew).alloc _⟩
    · simp only [Array.size_append, List.size_toArray, size_zeroCells, hzs, hown.len, hl, ← Nat.add_mul]
      rw [Nat.zero_add]
      apply Nat.le_of_eq
      congr 1
      omega
    · simp only [Array.toList_append, List.append_assoc, List.drop_zero]
      rw [← List.append_assoc, ← hlen]
      exact List.take_left
  rcases hown.at_ with ⟨rfl, rfl⟩ | ⟨g, o, cap, cur, rfl, hSg, hg, hnc, hcm, hcs, htake⟩
  · have hx : xs = [] := List.eq_nil_of_length_eq_zero (by simpa using hown.len)
    subst hx
    have hr := run_append_nil (P := P) w t ty e i z ht hi hz a m c news hl hnews (by omega) (by simp only [maxLen] at h63; omega) (by have hb := hbytes; simp only [Nat.zero_add] at hb; omega)
    have hgr := grown 0 (by omega)
    simp only [Nat.zero_add, List.nil_append, Array.empty_append] at hgr ⊢
    exact ⟨_, _, hr, hgr.1, hgr.2⟩
  · have hadd : ∀ j, (⟨g, o, none⟩ : Addr).add j = ⟨g, o + j, none⟩ := fun j => by unfold Addr.add; split <;> simp_all
    by_cases hroom : n + m ≤ cap
    · have hle : (n + m) * i.size ≤ cap * i.size := Nat.mul_le_mul_right _ hroom
      rw [Nat.add_mul] at hle
      have hf := run_firstCells_some (P := P) w i.size m a m c news hl hnews
      have hst := run_storeCells_at P g (o + n * i.size) e news 0 cur w hg (by omega) h1
      simp only [Nat.add_zero] at hst
      refine ⟨_, _, (by simp [Builtin.append_, run_underlying ht, sizeOf, typeInfo, hi, Builtin.lenOf, hroom, hf, Addr.add_lit, hst]; rfl), ⟨hlen, .inr ⟨g, o, cap, _, rfl, ⟨.inl hSg, by simpa using hg.lt⟩, setRow_heap w g cur _ e _ hg, hroom, hcm, ?_, ?_⟩⟩, (Chg.refl S w).setRow (fun _ => hSg) _⟩
      · simp only [List.size_toArray, List.length_append, List.length_take, List.length_drop, Array.length_toList]
        omega
      · rw [← hlen]
        have h5 : cur.toList.take (o + n * i.size) = cur.toList.take o ++ xs := by rw [List.take_add, htake]
        have h6 : (cur.toList.take o).length = o := by rw [List.length_take]; simp; omega
        simp only [h5, List.append_assoc]
        rw [List.drop_left' h6, ← List.append_assoc]
        exact List.take_left
    · have holds : ∀ j u, xs[j]? = some u → w.cell? ((⟨g, o, none⟩ : Addr).add j) = some u := by
        intro j u hu
        rw [hadd, hown.cellAt j (by rw [← hown.len]; exact (List.getElem?_eq_some_iff.1 hu).1)]
        exact hu
      have hr := run_append_grow (P := P) w t ty e i z ht hi hz ⟨g, o, none⟩ n cap xs hown.len holds a m c news hl hnews (by omega) (by simp only [maxLen] at h63; omega) (growslice_fits (by omega) hbytes)
      have hgr := grown cap (by omega)
      exact ⟨_, _, hr, hgr.1, hgr.2⟩
theorem wpList_app {P : Program} (w : World) {ops : Array Oper} {rest : List Oper} {o : Oper} {a : Act} {Q : Exit → Act → World → Prop} (hgd : o.guard = none) (s x : Operand) (t : TypeId)
    (ho : o.op = .call { callee := .builtin .append, args := #[s, x], argTypes := #[t, t] })
    (S : Nat → Prop) (e : TypeId) (i : TypeInfo) (z : Value) (size bytes : Nat) (ht : P.underlying t = some (.slice e)) (hi : P.info? e = some i) (hz : i.zero = some z)
    (hsize : i.size = size) (hby : i.bytes = bytes) (hzs : z.cells.size = size)
    (v : Value) (n : Nat) (xs : List Value) (hs : a.eval s = v) (hown : Own w S e size v n xs)
    (ad : Addr) (m c : Nat) (news : List Value) (hx : a.eval x = .slice (some ad) m c) (hm0 : 0 < m) (hl : news.length = m * size) (hnews : ∀ j u, news[j]? = some u → w.cell? (ad.add j) = some u) (h1 : ∀ u ∈ news, u.oneCell' = true)
    (h63 : n + m ≤ maxLen) (hbytes : (n + m) * bytes ≤ 140737488355328)
    (h : ∀ g' o' c' w', Own w' (nx S w w') e size (.slice (some ⟨g', o', none⟩) (n + m) c') (n + m) (xs ++ news) → Chg S w w' → wpList P ops Q rest (a.put o.dst (.slice (some ⟨g', o', none⟩) (n + m) c')) w') : wpList P ops Q (o :: rest) a w := by
  obtain ⟨v', w', hr, h2, h3⟩ := run_app (P := P) w S t o.type e i z size bytes ht hi hz hsize hby hzs v n xs hown ad m c news hm0 hl hnews h1 h63 hbytes
  refine wpList_plain hgd fun K hK' => ?_
  unfold Oper.wp execOp
  simp only [ho, resolve, invoke, builtin, Sem.run_bind, Sem.run_pure, Result.andThen_ok, List.map_toArray, List.map_cons, List.map_nil, hs, hx, hr]
  rcases h2.form with ⟨_, h0, _⟩ | ⟨g, o', c', rfl, _⟩
  · omega
  · exact hK' _ _ (h g o' c' w' h2 h3)
def New (w : World) : Nat → Prop := fun k => w.heap.size ≤ k
theorem nx_new {w w1 w2 : World} {k : Nat} (h : w.heap.size ≤ w1.heap.size) (hk : nx (New w) w1 w2 k) : New w k := hk.1.elim id fun h2 => Nat.le_trans h h2
theorem built_cells (w : World) (cs : Array Value) (t : TypeId) : ∀ j u, cs.toList[j]? = some u → (w.alloc (.cells cs t)).cell? ((⟨w.heap.size, 0, none⟩ : Addr).add j) = some u := by
  intro j u hu
  rw [Addr.add_lit, Nat.zero_add, (Blk.new w cs t).cell j, ← Array.getElem?_toList]
  exact hu
theorem built_at {w : World} {b : Nat} {cs : Array Value} {t : TypeId} (hb : w.heap.size = b) : ∀ j u, cs.toList[j]? = some u → (w.alloc (.cells cs t)).cell? ((⟨b, 0, none⟩ : Addr).add j) = some u := by
  subst hb
  exact built_cells w cs t
theorem fresh_app {w wr w' : World} {o : Obj} {e : TypeId} {size n : Nat} {v' : Value} {xs : List Value} (hc : Chg No w wr) (ho' : Own w' (nx (New w) (wr.alloc o) w') e size v' n xs) (hc' : Chg (New w) (wr.alloc o) w') : Own w' (New w) e size v' n xs ∧ Chg No w w' :=
  ⟨ho'.mono fun k _ hk => nx_new (by have := hc.size; simp; omega) hk, (hc.alloc o).step hc' fun k hk hn => absurd hn (by unfold New; omega)⟩
theorem Chg.of_new {w w1 w2 : World} (hc : Chg No w w1) (h : Chg (New w) w1 w2) : Chg No w w2 := hc.step h fun k hk hn => absurd hn (by unfold New; omega)
theorem New.mono {w w1 : World} {k : Nat} (h : w.heap.size ≤ w1.heap.size) (hk : New w1 k) : New w k := Nat.le_trans h hk
theorem Own.sl {w : World} {S : Nat → Prop} {e : TypeId} {size n : Nat} {v : Value} {xs : List Value} (h : Own w S e size v n xs) : ∃ a c, v = .slice a n c := by
  rcases h.form with ⟨h1, h2, _⟩ | ⟨g, o, cap, h1, _⟩
  · exact ⟨none, 0, by rw [h1, h2]⟩
  · exact ⟨_, _, h1⟩
theorem Own.some_ {w : World} {S : Nat → Prop} {e : TypeId} {size n c : Nat} {a : Option Addr} {xs : List Value} (h : Own w S e size (.slice a n c) n xs) (hn : 0 < n) : ∃ g o, a = some ⟨g, o, none⟩ ∧ S g ∧ g < w.heap.size ∧ n ≤ c ∧ c ≤ maxLen := by
  rcases h.form with ⟨_, h2, _⟩ | ⟨g, o, cap, h1, h2, h3, h4, h5⟩
  · omega
  · injection h1 with h1 _ h6
    subst h1 h6
    exact ⟨g, o, rfl, h2, h3, h4, h5⟩
def Arr (w : World) (S : Nat → Prop) : Nat → Prop := fun b => S b ∧ ∃ cs, Blk w b cs 20
theorem Own.arr {w : World} {S : Nat → Prop} {n : Nat} {v : Value} {xs : List Value} (h : Own w S 20 1 v n xs) : Own w (Arr w S) 20 1 v n xs := by
  refine ⟨h.len, h.at_.imp_right ?_⟩
  rintro ⟨g, o, cap, cur, hv, hS, hb, h1⟩
  exact ⟨g, o, cap, cur, hv, ⟨hS, _, hb⟩, hb, h1⟩
theorem Blk.no_arr {w : World} {S : Nat → Prop} {g : Nat} {cs : Array Value} {t : TypeId} (h : Blk w g cs t) (ht : t ≠ 20) : ¬ Arr w S g := by
  rintro ⟨_, cs', h'⟩
  exact h.ne h' ht rfl
theorem step_app {P : Program} {ops : Array Oper} {o : Oper} {a : Act} {w : World} {K : Act → World → Prop} {Q : Exit → Act → World → Prop} {E : Prop}
    (hg : o.guard = none) (s x : Operand) (t : TypeId) (hop : o.op = Op.call { callee := Callee.builtin Builtin.append, args := #[s, x], argTypes := #[t, t] })
    (S : Nat → Prop) (e : TypeId) (i : TypeInfo) (z : Value) (size bytes : Nat) (ht : P.underlying t = some (.slice e)) (hi : P.info? e = some i) (hz : i.zero = some z)
    (hsize : i.size = size) (hby : i.bytes = bytes) (hzs : z.cells.size = size)
    (v : Value) (n : Nat) (xs : List Value) (hs : a.eval s = v) (hown : Own w S e size v n xs)
    (ad : Addr) (m c : Nat) (news : List Value) (hx : a.eval x = .slice (some ad) m c) (hm0 : 0 < m) (hl : news.length = m * size) (hnews : ∀ j u, news[j]? = some u → w.cell? (ad.add j) = some u) (h1 : ∀ u ∈ news, u.oneCell' = true)
    (h63 : n + m ≤ maxLen) (hbytes : (n + m) * bytes ≤ 140737488355328)
    (hK : ∀ g' o' c' w', Own w' (nx S w w') e size (.slice (some ⟨g', o', none⟩) (n + m) c') (n + m) (xs ++ news) → Chg S w w' → K (a.put o.dst (.slice (some ⟨g', o', none⟩) (n + m) c')) w') :
    if Region.wanted o (yielded ops a.tmps) = true then Oper.wp P o a w K Q else E := by
  have hw : Region.wanted o (yielded ops a.tmps) = true := by simp [Region.wanted, hg]
  rw [if_pos hw]
  obtain ⟨v', w', hr, h2, h3⟩ := run_app (P := P) w S t o.type e i z size bytes ht hi hz hsize hby hzs v n xs hown ad m c news hm0 hl hnews h1 h63 hbytes
  unfold Oper.wp execOp
  simp only [hop, resolve, invoke, builtin, Sem.run_bind, Sem.run_pure, Result.andThen_ok, List.map_toArray, List.map_cons, List.map_nil, hs, hx, hr]
  rcases h2.form with ⟨_, h0, _⟩ | ⟨g, o', c', rfl, _⟩
  · omega
  · exact hK g o' c' w' h2 h3
end Go.Proofs.YtdgphoemjeakaaaGreatDoor.K
namespace Go.Proofs.YtdgphoemjeakaaaGreatDoor.Z
open Go.RowKit
@[go_sem] theorem yes96 (W : World) (v : Value) : (Instr.typeAssert (.iface 96 v) 20 96 true).run Tryz.prog W = .ok (.tuple #[v, .bool true]) W := by kernel_rfl
@[go_sem] theorem is96 (W : World) (v : Value) : (Instr.typeAssert (.iface 96 v) 20 96 false).run Tryz.prog W = .ok v W := by kernel_rfl
@[go_sem] theorem yes117 (W : World) (v : Value) : (Instr.typeAssert (.iface 117 v) 20 117 true).run Tryz.prog W = .ok (.tuple #[v, .bool true]) W := by kernel_rfl
@[go_sem] theorem is117 (W : World) (v : Value) : (Instr.typeAssert (.iface 117 v) 20 117 false).run Tryz.prog W = .ok v W := by kernel_rfl
@[go_sem] theorem yes128 (W : World) (v : Value) : (Instr.typeAssert (.iface 128 v) 20 128 true).run Tryz.prog W = .ok (.tuple #[v, .bool true]) W := by kernel_rfl
@[go_sem] theorem is128 (W : World) (v : Value) : (Instr.typeAssert (.iface 128 v) 20 128 false).run Tryz.prog W = .ok v W := by kernel_rfl
@[go_sem] theorem yes161 (W : World) (v : Value) : (Instr.typeAssert (.iface 161 v) 20 161 true).run Tryz.prog W = .ok (.tuple #[v, .bool true]) W := by kernel_rfl
@[go_sem] theorem is161 (W : World) (v : Value) : (Instr.typeAssert (.iface 161 v) 20 161 false).run Tryz.prog W = .ok v W := by kernel_rfl
@[go_sem] theorem yes184 (W : World) (v : Value) : (Instr.typeAssert (.iface 184 v) 20 184 true).run Tryz.prog W = .ok (.tuple #[v, .bool true]) W := by kernel_rfl
@[go_sem] theorem is184 (W : World) (v : Value) : (Instr.typeAssert (.iface 184 v) 20 184 false).run Tryz.prog W = .ok v W := by kernel_rfl
@[go_sem] theorem yes2 (W : World) (v : Value) : (Instr.typeAssert (.iface 2 v) 20 2 true).run Tryz.prog W = .ok (.tuple #[v, .bool true]) W := by kernel_rfl
@[go_sem] theorem is2 (W : World) (v : Value) : (Instr.typeAssert (.iface 2 v) 20 2 false).run Tryz.prog W = .ok v W := by kernel_rfl
@[go_sem] theorem yes218 (W : World) (v : Value) : (Instr.typeAssert (.iface 218 v) 20 218 true).run Tryz.prog W = .ok (.tuple #[v, .bool true]) W := by kernel_rfl
@[go_sem] theorem is218 (W : World) (v : Value) : (Instr.typeAssert (.iface 218 v) 20 218 false).run Tryz.prog W = .ok v W := by kernel_rfl
@[go_sem] theorem yes245 (W : World) (v : Value) : (Instr.typeAssert (.iface 245 v) 20 245 true).run Tryz.prog W = .ok (.tuple #[v, .bool true]) W := by kernel_rfl
@[go_sem] theorem is245 (W : World) (v : Value) : (Instr.typeAssert (.iface 245 v) 20 245 false).run Tryz.prog W = .ok v W := by kernel_rfl
@[go_sem] theorem yes3 (W : World) (v : Value) : (Instr.typeAssert (.iface 3 v) 20 3 true).run Tryz.prog W = .ok (.tuple #[v, .bool true]) W := by kernel_rfl
@[go_sem] theorem is3 (W : World) (v : Value) : (Instr.typeAssert (.iface 3 v) 20 3 false).run Tryz.prog W = .ok v W := by kernel_rfl
@[go_sem] theorem yes32 (W : World) (v : Value) : (Instr.typeAssert (.iface 32 v) 20 32 true).run Tryz.prog W = .ok (.tuple #[v, .bool true]) W := by kernel_rfl
@[go_sem] theorem is32 (W : World) (v : Value) : (Instr.typeAssert (.iface 32 v) 20 32 false).run Tryz.prog W = .ok v W := by kernel_rfl
@[go_sem] theorem yes4 (W : World) (v : Value) : (Instr.typeAssert (.iface 4 v) 20 4 true).run Tryz.prog W = .ok (.tuple #[v, .bool true]) W := by kernel_rfl
@[go_sem] theorem is4 (W : World) (v : Value) : (Instr.typeAssert (.iface 4 v) 20 4 false).run Tryz.prog W = .ok v W := by kernel_rfl
@[go_sem] theorem yes52 (W : World) (v : Value) : (Instr.typeAssert (.iface 52 v) 20 52 true).run Tryz.prog W = .ok (.tuple #[v, .bool true]) W := by kernel_rfl
@[go_sem] theorem is52 (W : World) (v : Value) : (Instr.typeAssert (.iface 52 v) 20 52 false).run Tryz.prog W = .ok v W := by kernel_rfl
@[go_sem] theorem yes54 (W : World) (v : Value) : (Instr.typeAssert (.iface 54 v) 20 54 true).run Tryz.prog W = .ok (.tuple #[v, .bool true]) W := by kernel_rfl
@[go_sem] theorem is54 (W : World) (v : Value) : (Instr.typeAssert (.iface 54 v) 20 54 false).run Tryz.prog W = .ok v W := by kernel_rfl
@[go_sem] theorem yes56 (W : World) (v : Value) : (Instr.typeAssert (.iface 56 v) 20 56 true).run Tryz.prog W = .ok (.tuple #[v, .bool true]) W := by kernel_rfl
@[go_sem] theorem is56 (W : World) (v : Value) : (Instr.typeAssert (.iface 56 v) 20 56 false).run Tryz.prog W = .ok v W := by kernel_rfl
@[go_sem] theorem yes60 (W : World) (v : Value) : (Instr.typeAssert (.iface 60 v) 20 60 true).run Tryz.prog W = .ok (.tuple #[v, .bool true]) W := by kernel_rfl
@[go_sem] theorem is60 (W : World) (v : Value) : (Instr.typeAssert (.iface 60 v) 20 60 false).run Tryz.prog W = .ok v W := by kernel_rfl
@[go_sem] theorem yes86 (W : World) (v : Value) : (Instr.typeAssert (.iface 86 v) 20 86 true).run Tryz.prog W = .ok (.tuple #[v, .bool true]) W := by kernel_rfl
@[go_sem] theorem is86 (W : World) (v : Value) : (Instr.typeAssert (.iface 86 v) 20 86 false).run Tryz.prog W = .ok v W := by kernel_rfl
@[go_sem] theorem yes88 (W : World) (v : Value) : (Instr.typeAssert (.iface 88 v) 20 88 true).run Tryz.prog W = .ok (.tuple #[v, .bool true]) W := by kernel_rfl
@[go_sem] theorem is88 (W : World) (v : Value) : (Instr.typeAssert (.iface 88 v) 20 88 false).run Tryz.prog W = .ok v W := by kernel_rfl
@[go_sem] theorem yes91 (W : World) (v : Value) : (Instr.typeAssert (.iface 91 v) 20 91 true).run Tryz.prog W = .ok (.tuple #[v, .bool true]) W := by kernel_rfl
@[go_sem] theorem is91 (W : World) (v : Value) : (Instr.typeAssert (.iface 91 v) 20 91 false).run Tryz.prog W = .ok v W := by kernel_rfl
@[go_sem] theorem no3_2 (W : World) (v : Value) : (Instr.typeAssert (.iface 3 v) 20 2 true).run Tryz.prog W = .ok (.tuple #[.int .i64 0, .bool false]) W := by kernel_rfl
@[go_sem ↓] theorem fld117_0 (W : World) (a b : Value) : (Instr.field 117 (.agg #[a, b]) 0).run Tryz.prog W = .ok a W := by kernel_rfl
@[go_sem ↓] theorem fld32_0 (W : World) (a b c : Value) : (Instr.field 32 (.agg #[a, b, c]) 0).run Tryz.prog W = .ok a W := by kernel_rfl
end Go.Proofs.YtdgphoemjeakaaaGreatDoor.Z
namespace Go.Proofs.YtdgphoemjeakaaaGreatDoor.U
open Go.RowKit K
abbrev Rep := World → (Nat → Prop) → Prop
structure Good (R : Rep) : Prop where
  chg : ∀ {w w' : World} {S T : Nat → Prop}, R w S → Chg T w w' → (∀ k, S k → T k → False) → R w' S
  bd : ∀ {w : World} {S : Nat → Prop}, R w S → ∀ k, S k → k < w.heap.size
def One (p : Nat) (cs : Array Value) (t : TypeId) : Rep := fun w S => (∀ k, S k → k < w.heap.size) ∧ S p ∧ Blk w p cs t
theorem One.good (p : Nat) (cs : Array Value) (t : TypeId) : Good (One p cs t) :=
  ⟨fun h c hd => ⟨fun k hk => Nat.lt_of_lt_of_le (h.1 k hk) c.size, h.2.1, h.2.2.chg c (hd p h.2.1)⟩, fun h => h.1⟩
def Nil : Rep := fun w S => ∀ k, S k → k < w.heap.size
theorem Nil.good : Good Nil := ⟨fun h c _ k hk => Nat.lt_of_lt_of_le (h k hk) c.size, fun h => h⟩
def Two (R Q : Rep) : Rep := fun w S => (∀ k, S k → k < w.heap.size) ∧ ∃ A B : Nat → Prop, (∀ k, A k → S k) ∧ (∀ k, B k → S k) ∧ (∀ k, A k → B k → False) ∧ R w A ∧ Q w B
section
variable {R R' Q Q' : Rep} {w w' : World} {S T : Nat → Prop}
theorem Two.good (hR : Good R) (hQ : Good Q) : Good (Two R Q) :=
  ⟨fun ⟨hb, A, B, hA, hB, hAB, r, q⟩ c hd => ⟨fun k hk => Nat.lt_of_lt_of_le (hb k hk) c.size, A, B, hA, hB, hAB, hR.chg r c (fun k h => hd k (hA k h)), hQ.chg q c (fun k h => hd k (hB k h))⟩, fun h => h.1⟩
theorem Good.kept (hR : Good R) (h : R w S) (c : Chg No w w') : R w' S := hR.chg h c fun _ _ h => h
theorem Two.left (hQ : Good Q) (h : Two R Q w S) : ∃ A : Nat → Prop, R w A ∧ (∀ k, A k → S k) ∧ ∀ (R' : Rep) (w' : World), R' w' (K.nx A w w') → Chg A w w' → Two R' Q w' (K.nx S w w') ∧ Chg S w w' := by
  obtain ⟨hb, A, B, hA, hB, hAB, r, q⟩ := h
  refine ⟨A, r, hA, fun R' w' h c => ⟨⟨fun k hk => hk.2, K.nx A w w', B, fun k hk => ⟨hk.1.imp_left (hA k), hk.2⟩, fun k hk => ⟨.inl (hB k hk), Nat.lt_of_lt_of_le (hQ.bd q k hk) c.size⟩, fun k h1 h2 => ?_, h, hQ.chg q c fun k h1 h2 => hAB k h2 h1⟩, c.mono fun k _ h => hA k h⟩⟩
  rcases h1.1 with h3 | h3
  · exact hAB k h3 h2
  · have := hQ.bd q k h2; omega
theorem Two.right (hR : Good R) (h : Two R Q w S) : ∃ B : Nat → Prop, Q w B ∧ (∀ k, B k → S k) ∧ ∀ (Q' : Rep) (w' : World), Q' w' (K.nx B w w') → Chg B w w' → Two R Q' w' (K.nx S w w') ∧ Chg S w w' := by
  obtain ⟨hb, A, B, hA, hB, hAB, r, q⟩ := h
  refine ⟨B, q, hB, fun Q' w' h c => ⟨⟨fun k hk => hk.2, A, K.nx B w w', fun k hk => ⟨.inl (hA k hk), Nat.lt_of_lt_of_le (hR.bd r k hk) c.size⟩, fun k hk => ⟨hk.1.imp_left (hB k), hk.2⟩, fun k h1 h2 => ?_, hR.chg r c fun k h1 h2 => hAB k h1 h2, h⟩, c.mono fun k _ h => hB k h⟩⟩
  rcases h2.1 with h3 | h3
  · exact hAB k h1 h3
  · have := hR.bd r k h1; omega
end
structure Wide (R : Rep) : Prop where
  mono : ∀ {w : World} {S T : Nat → Prop}, R w S → (∀ k, S k → T k) → (∀ k, T k → k < w.heap.size) → R w T
theorem One.wide (p : Nat) (cs : Array Value) (t : TypeId) : Wide (One p cs t) := ⟨fun h hs hb => ⟨hb, hs p h.2.1, h.2.2⟩⟩
theorem Nil.wide : Wide Nil := ⟨fun _ _ hb => hb⟩
theorem Two.wide {R Q : Rep} : Wide (Two R Q) := ⟨fun ⟨_, A, B, hA, hB, h⟩ hs hb => ⟨hb, A, B, fun k hk => hs k (hA k hk), fun k hk => hs k (hB k hk), h⟩⟩
theorem Wide.nx {R : Rep} {w w' : World} {S : Nat → Prop} (hW : Wide R) (hG : Good R) (h : R w S) (c : Chg No w w') : R w' (K.nx S w w') := hW.mono (hG.kept h c) (fun k hk => ⟨.inl hk, Nat.lt_of_lt_of_le (hG.bd h k hk) c.size⟩) fun _ hk => hk.2
theorem Wide.nx' {R : Rep} {w w' : World} {S : Nat → Prop} (hW : Wide R) (hG : Good R) (h : R w' S) : R w' (K.nx S w w') := hW.mono h (fun k hk => ⟨.inl hk, hG.bd h k hk⟩) fun _ hk => hk.2
theorem Wide.nn {R : Rep} {w w' w'' : World} {S : Nat → Prop} (hW : Wide R) (h : R w'' (K.nx (K.nx S w w') w' w'')) (c : w.heap.size ≤ w'.heap.size) : R w'' (K.nx S w w'') := hW.mono h (fun _ hk => K.nx_nx c hk) fun _ hk => hk.2
theorem One.set {p : Nat} {cs : Array Value} {t : TypeId} {w : World} {S : Nat → Prop} (h : One p cs t w S) (j : Nat) (v : Value) : One p (cs.setIfInBounds j v) t (w.setCell ⟨p, j, none⟩ v) (K.nx S w (w.setCell ⟨p, j, none⟩ v)) ∧ Chg S w (w.setCell ⟨p, j, none⟩ v) := by
  have hs : (w.setCell ⟨p, j, none⟩ v).heap.size = w.heap.size := by simp [World.setCell]
  exact ⟨⟨fun k hk => hk.2, ⟨.inl h.2.1, by rw [hs]; exact h.1 p h.2.1⟩, h.2.2.set j v⟩, (Chg.refl S w).set (fun _ => h.2.1) v⟩
end Go.Proofs.YtdgphoemjeakaaaGreatDoor.U
namespace Go.Proofs.YtdgphoemjeakaaaGreatDoor.G
open Go.RowKit Go.Lib Go.Shelf K
set_option maxRecDepth 100000
theorem info20 : (Tryz.prog.info? 20).map (fun i => (i.zero, i.size, i.bytes)) = some (some .nilIface, 1, 16) := by kernel_rfl
theorem zero20 (w : World) : (zeroValue 20).run Tryz.prog w = .ok .nilIface w := by kernel_rfl
def First {α : Type} (p : α → Bool) (es : List α) (r : Int) : Prop := (r = -1 ∧ ∀ x, x ∈ es → p x = false) ∨ ∃ k : Nat, ∃ x, es[k]? = some x ∧ r = k ∧ p x = true ∧ ∀ j y, j < k → es[j]? = some y → p y = false
set_option maxHeartbeats 1000000 in
theorem index_func {α : Type} (enc : α → Value) (p : α → Bool) (es : List α) (F : Nat) (lb : Array Value) (eg : ∀ args w, (callFunc F args).run Tryz.prog w = .ok (.enter F args) w)
    (w : World) (S : Nat → Prop) (v : Value) (own : Own w S 20 1 v es.length (es.map enc)) (hn : es.length ≤ 1099511627776)
    (hp : ∀ W x, x ∈ es → Chg No w W → Calls Tryz.prog F (#[enc x] ++ lb) W fun e w' => e = .returned (.bool (p x)) ∧ Chg No W w') :
    Calls Tryz.prog 115 #[v, .func (.func F) #[] lb] w fun e w' => ∃ r, e = .returned (.int .i64 r) ∧ First p es r ∧ Chg No w w' := by
  obtain ⟨va, cap, hv⟩ := own.sl
  subst hv
  have HO := Lib.hid own
  have HP := Lib.hid hp
  clear own hp
  go_enter Tryz.func115, Tryz.ntmps115
  go_wp2_with fail
  go_loopw [8] (fun i wr => ∃ n : Nat, n ≤ es.length ∧ i = .int .i64 n ∧ Hid (∀ j y, j < n → es[j]? = some y → p y = false) ∧ Hid (Chg No w wr)) (fun i _ => es.length - (intOf i).toNat)
  case atStart => exact ⟨0, Nat.zero_le _, rfl, fun j y hj => absurd hj (Nat.not_lt_zero _), Chg.refl _ _⟩
  case round =>
    obtain ⟨n, hk, rfl, HA, HC⟩ := hrel
    by_cases hlt : n < es.length
    · obtain ⟨g, o, rfl, hS, hg, hcap, hmax⟩ := HO.out.some_ (by omega)
      obtain ⟨x, hx⟩ : ∃ x, es[n]? = some x := ⟨es[n], List.getElem?_eq_getElem hlt⟩
      have c0 : wr.cell? ⟨g, o + n, none⟩ = some (enc x) := by
        rw [(HO.out.kept HC.out).cellAt n (by omega), List.getElem?_map, hx]; rfl
      have hcall := HP.out wr x (List.mem_of_getElem? hx) HC.out
      have HX := Lib.hid hx
      clear hx hS hmax
      cases hq : p x with
      | true =>
        rw [hq] at hcall
        have HQ := Lib.hid hq
        clear hq
        go_wp2_with (go_at_fn F; refine hcall.mono ?_; rintro e w' ⟨rfl, hc'⟩)
        go_ret
        exact ⟨_, rfl, .inr ⟨n, x, HX.out, rfl, HQ.out, HA.out⟩, HC.out.trans hc'⟩
      | false =>
        rw [hq] at hcall
        have HQ := Lib.hid hq
        clear hq
        go_wp2_with (go_at_fn F; refine hcall.mono ?_; rintro e w' ⟨rfl, hc'⟩)
        go_roundw
        case rel =>
          refine ⟨n + 1, by omega, by go_num, (show ∀ _, _ from fun j y hj hy => ?_), HC.out.trans hc'⟩
          by_cases e : j = n
          · subst e
            rw [HX.out] at hy
            cases hy
            exact HQ.out
          · exact HA.out j y (by omega) hy
        case measure => simp [intOf]; omega
    · obtain rfl : n = es.length := by omega
      go_wp2
      go_ret
      refine ⟨_, rfl, .inl ⟨rfl, fun x hx => ?_⟩, HC.out⟩
      obtain ⟨j, hj, h1⟩ := List.getElem_of_mem hx
      exact HA.out j x hj (by rw [List.getElem?_eq_getElem hj, h1])
theorem blk_setCells {g : Nat} {t : TypeId} : ∀ (vs : List Value) (o : Nat) (w : World) (cs : Array Value), Blk w g cs t → ∃ cs', Blk (w.setCells g o vs) g cs' t ∧ cs'.size = cs.size ∧ ∀ j, j < o → cs'[j]? = cs[j]?
  | [], o, w, cs, h => ⟨cs, h, rfl, fun _ _ => rfl⟩
  | v :: r, o, w, cs, h => by
    obtain ⟨cs', h1, h2, h3⟩ := blk_setCells r (o + 1) (w.setCell ⟨g, o, none⟩ v) _ (h.set o v)
    refine ⟨cs', h1, by rw [h2]; simp, fun j hj => ?_⟩
    rw [h3 j (by omega), Array.getElem?_setIfInBounds_ne (by omega)]
theorem chg_setCells {S : Nat → Prop} {w0 : World} {g : Nat} (hg : S g) : ∀ (vs : List Value) (o : Nat) (w : World), Chg S w0 w → Chg S w0 (w.setCells g o vs)
  | [], _, _, h => h
  | v :: r, o, w, h => chg_setCells hg r (o + 1) (w.setCell ⟨g, o, none⟩ v) (h.set (a := ⟨g, o, none⟩) (fun _ => hg) v)
theorem own_clear {w : World} {S : Nat → Prop} {e : TypeId} {g o cap n : Nat} {xs : List Value} (h : Own w S e 1 (.slice (some ⟨g, o, none⟩) n cap) n xs) (i : Nat) (hi : i ≤ n) (vs : List Value) : Own (w.setCells g (o + i) vs) S e 1 (.slice (some ⟨g, o, none⟩) i cap) i (xs.take i) := by
  obtain ⟨hS, hl, cur, hb, h1, h2, h3, h4⟩ := h.blk
  obtain ⟨cs', b1, b2, b3⟩ := blk_setCells vs (o + i) w cur hb
  refine ⟨by rw [List.length_take, h.len]; omega, .inr ⟨g, o, cap, cs', rfl, hS, b1, by omega, h2, by omega, ?_⟩⟩
  rw [← h4]
  apply List.ext_getElem?
  intro t
  simp only [Nat.mul_one] at *
  by_cases ht : t < i
  · rw [List.getElem?_take, if_pos ht, List.getElem?_drop, List.getElem?_take, if_pos ht, List.getElem?_take, if_pos (by omega), List.getElem?_drop, Array.getElem?_toList, Array.getElem?_toList, b3 _ (by omega)]
  · rw [List.getElem?_eq_none (by simp; omega), List.getElem?_eq_none (by simp; omega)]
theorem run_storeOne {P : Program} {w : World} {a : Addr} {u v : Value} (h1 : v.oneCell' = true) (hc : w.cell? a = some u) (hf : w.frozen? a = false) : Sem.run P (storeCells a [v]) w = .ok () (w.setCell a v) := by
  have e : a.add 0 = a := by unfold Addr.add; split <;> simp_all
  simp only [storeCells, Sem.run_bind, e]
  rw [run_store P w a v _ h1, hc]
  simp [hf]
def kept {α : Type} (p : α → Bool) (es : List α) : List α := es.filter fun x => !p x
theorem kept_snoc_no {α : Type} {p : α → Bool} {es : List α} {n : Nat} {x : α} (hx : es[n]? = some x) (hp : p x = false) : kept p (es.take (n + 1)) = kept p (es.take n) ++ [x] := by
  rw [List.take_add_one, hx]
  simp [kept, List.filter_append, hp]
theorem kept_snoc_yes {α : Type} {p : α → Bool} {es : List α} {n : Nat} {x : α} (hx : es[n]? = some x) (hp : p x = true) : kept p (es.take (n + 1)) = kept p (es.take n) := by
  rw [List.take_add_one, hx]
  simp [kept, List.filter_append, hp]
theorem kept_all {α : Type} {p : α → Bool} : ∀ {es : List α}, (∀ x, x ∈ es → p x = false) → kept p es = es := by
  intro es h
  unfold kept
  rw [List.filter_eq_self]
  intro x hx
  simp [h x hx]
theorem set_take {β : Type} (ys : List β) (i : Nat) (u : β) (h : i < ys.length) : (ys.set i u).take (i + 1) = ys.take i ++ [u] := by
  rw [List.take_add_one, List.getElem?_set_self h, List.take_set_of_le (Nat.le_refl _)]
  rfl
set_option maxHeartbeats 2000000 in
theorem delete_func {α : Type} (T : TypeId) (val : α → Value) (p : α → Bool) (es : List α) (F : Nat) (lb : Array Value) (eg : ∀ args w, (callFunc F args).run Tryz.prog w = .ok (.enter F args) w)
    (w : World) (A : Nat → Prop) (v : Value) (own : Own w A 20 1 v es.length (es.map fun x => Value.iface T (val x))) (hn : es.length ≤ 1099511627776)
    (hp : ∀ W x, x ∈ es → Chg A w W → Calls Tryz.prog F (#[.iface T (val x)] ++ lb) W fun e w' => e = .returned (.bool (p x)) ∧ Chg No W w') :
    Calls Tryz.prog 140 #[v, .func (.func F) #[] lb] w fun e w' => ∃ v', e = .returned v' ∧ Own w' A 20 1 v' (kept p es).length ((kept p es).map fun x => Value.iface T (val x)) ∧ Chg A w w' := by
  have HI := Lib.hid (index_func (fun x => Value.iface T (val x)) p es F lb eg w A v own hn fun W x hx hc => hp W x hx hc.of_no)
  have HO := Lib.hid own
  have HP := Lib.hid hp
  clear own hp
  obtain ⟨va, cap, hv⟩ := HO.out.sl
  subst hv
  have he115 : ∀ args w, (callFunc 115 args).run Tryz.prog w = .ok (.enter 115 args) w := enters_of Tryz.func115 (by kernel_rfl) rfl
  go_enter Tryz.func140, Tryz.ntmps140
  go_wp2_with fail
  refine HI.out.mono ?_
  rintro e w0 ⟨r, rfl, hf, hc0⟩
  rcases hf with ⟨rfl, hall⟩ | ⟨k, x, hx, rfl, hq, hall⟩
  · have HA := Lib.hid hall
    have HC := Lib.hid hc0
    clear hall hc0
    go_wp2
    go_ret
    refine ⟨_, rfl, ?_, HC.out.of_no⟩
    rw [kept_all HA.out]
    exact HO.out.kept HC.out
  · have hkl : k < es.length := (List.getElem?_eq_some_iff.1 hx).1
    obtain ⟨g, o, rfl, hS, hg, hcap, hmax⟩ := HO.out.some_ (by omega)
    have hks : kept p (es.take (k + 1)) = es.take k := by
      rw [kept_snoc_yes hx hq, kept_all]
      intro y hy
      obtain ⟨j, hj, h2⟩ := List.getElem_of_mem hy
      have hj' : j < k := by simp at hj; omega
      have : (es.take k)[j]? = some y := by rw [List.getElem?_eq_getElem hj, h2]
      rw [List.getElem?_take, if_pos hj'] at this
      exact hall j y hj' this
    have HK := Lib.hid hks
    have HC0 := Lib.hid hc0
    have HS := Lib.hid hS
    have ne1 : ((k : Int) == -1) = false := beq_eq_false_iff_ne.2 (by omega)
    clear hks hc0 hall hq hx hS hmax
    go_wp2_with fail
    go_loopw [5, 6] (fun s5 s6 wr => ∃ (i j : Nat) (ys : List Value), s5 = .int .i64 i ∧ s6 = .int .i64 j ∧ i < j ∧ j ≤ es.length ∧ Hid (Own wr A 20 1 (.slice (some ⟨g, o, none⟩) es.length cap) es.length ys ∧ ys.take i = ((kept p (es.take j)).map fun x => Value.iface T (val x)) ∧ (kept p (es.take j)).length = i ∧ ∀ t, j ≤ t → ys[t]? = (es.map fun x => Value.iface T (val x))[t]?) ∧ Hid (Chg A w wr)) (fun _ j _ => es.length - (intOf j).toNat)
    case atStart =>
      exact ⟨k, k + 1, es.map fun x => Value.iface T (val x), rfl, by go_num, by omega, by omega, ⟨HO.out.kept HC0.out, by rw [HK.out, List.map_take], by rw [HK.out, List.length_take]; omega, fun _ _ => rfl⟩, HC0.out.of_no⟩
    case round =>
      obtain ⟨i, j, ys, rfl, rfl, hij, hj, HY, HC⟩ := hrel
      have HYO := Lib.hid HY.out.1
      by_cases hlt : j < es.length
      · obtain ⟨x, hx⟩ : ∃ x, es[j]? = some x := ⟨es[j], List.getElem?_eq_getElem hlt⟩
        have c0 : wr.cell? ⟨g, o + j, none⟩ = some (.iface T (val x)) := by
          rw [HYO.out.cellAt j (by omega), HY.out.2.2.2 j (Nat.le_refl _), List.getElem?_map, hx]; rfl
        have hcall := HP.out wr x (List.mem_of_getElem? hx) HC.out
        obtain ⟨u, hu⟩ : ∃ u, ys[i]? = some u := ⟨ys[i]'(by have := HYO.out.len; omega), List.getElem?_eq_getElem _⟩
        have HX := Lib.hid hx
        have HU := Lib.hid hu
        clear hx hu
        cases hq : p x with
        | false =>
          rw [hq] at hcall
          have HQ := Lib.hid hq
          clear hq
          go_wp2_with fail
          refine hcall.mono ?_
          rintro e w' ⟨rfl, hc'⟩
          have ci : w'.cell? ⟨g, o + i, none⟩ = some u := by rw [(HYO.out.kept hc').cellAt i (by omega)]; exact HU.out
          have fi : w'.frozen? ⟨g, o + i, none⟩ = false := (HYO.out.kept hc').freeAt _
          have hst : Sem.run Tryz.prog (storeCells ⟨g, o + i, none⟩ [.iface T (val x)]) w' = .ok () (w'.setCell ⟨g, o + i, none⟩ (.iface T (val x))) := run_storeOne rfl ci fi
          have HC' := Lib.hid hc'
          clear hc'
          go_wp2
          go_roundw
          case rel =>
            obtain ⟨_, y1, y2, y3⟩ := HY.out
            have hyl := HYO.out.len
            refine ⟨i + 1, j + 1, ys.set i (.iface T (val x)), by go_num, by go_num, by omega, by omega, ⟨(HYO.out.kept HC'.out).put i (by omega) _, ?_, ?_, ?_⟩, (HC.out.trans HC'.out.of_no).set (fun _ => HS.out) _⟩
            · rw [kept_snoc_no HX.out HQ.out, set_take _ _ _ (by omega), y1, List.map_append]; rfl
            · rw [kept_snoc_no HX.out HQ.out, List.length_append, y2]; rfl
            · intro t ht
              rw [List.getElem?_set_ne (by omega), y3 t (by omega)]
          case measure => simp [intOf]; omega
        | true =>
          rw [hq] at hcall
          have HQ := Lib.hid hq
          clear hq
          go_wp2_with fail
          refine hcall.mono ?_
          rintro e w' ⟨rfl, hc'⟩
          have HC' := Lib.hid hc'
          clear hc'
          go_wp2
          go_roundw
          case rel =>
            obtain ⟨_, y1, y2, y3⟩ := HY.out
            refine ⟨i, j + 1, ys, rfl, by go_num, by omega, by omega, ⟨HYO.out.kept HC'.out, ?_, ?_, fun t ht => y3 t (by omega)⟩, HC.out.trans HC'.out.of_no⟩
            · rw [kept_snoc_yes HX.out HQ.out, y1]
            · rw [kept_snoc_yes HX.out HQ.out, y2]
          case measure => simp [intOf]; omega
      · obtain rfl : j = es.length := by omega
        have hcl : ∀ ty, (Builtin.clear_ #[58] ty #[.slice (some ⟨g, o + i, none⟩) (es.length - i) (cap - i)]).run Tryz.prog wr = .ok (.tuple #[]) (wr.setCells g (o + i) (List.replicate (es.length - i) .nilIface)) :=
          fun ty => Lib.run_clear_slice wr 58 20 ty .nilIface Tryz.underlying58 zero20 rfl rfl g (o + i) _ _ (by omega) (fun t ht => by rw [Nat.add_assoc, HYO.out.cellAt (i + t) (by omega)]; simp [HYO.out.len]; omega) (fun t ht => HYO.out.freeAt _)
        go_wp2
        go_ret
        obtain ⟨_, y1, y2, y3⟩ := HY.out
        rw [List.take_length] at y1 y2
        refine ⟨_, rfl, ?_, chg_setCells HS.out _ _ _ HC.out⟩
        rw [y2, ← y1]
        exact own_clear HYO.out i (by omega) _
theorem own_setCells {S : Nat → Prop} {e : TypeId} {g o cap n : Nat} : ∀ (vs : List Value) (j : Nat) (w : World) (xs : List Value), Own w S e 1 (.slice (some ⟨g, o, none⟩) n cap) n xs → j + vs.length ≤ n → Own (w.setCells g (o + j) vs) S e 1 (.slice (some ⟨g, o, none⟩) n cap) n (xs.take j ++ vs ++ xs.drop (j + vs.length))
  | [], j, w, xs, h, _ => by simp only [List.append_nil, List.length_nil, Nat.add_zero, List.take_append_drop]; exact h
  | v :: r, j, w, xs, h, hj => by
    have hl := h.len
    simp at hj hl
    have := own_setCells r (j + 1) _ _ (h.put j (by omega) v) (by omega)
    rw [set_take xs j v (by omega), List.drop_set_of_lt (by omega)] at this
    show Own ((w.setCell ⟨g, o + j, none⟩ v).setCells g (o + j + 1) r) _ _ _ _ _ _
    rw [Nat.add_assoc]
    simpa [Nat.add_assoc, Nat.add_comm 1] using this
set_option maxHeartbeats 4000000 in
theorem delete_one (w : World) (A : Nat → Prop) (v : Value) (xs : List Value) (own : Own w A 20 1 v xs.length xs) (hn : xs.length ≤ 1099511627776) (h1 : ∀ u, u ∈ xs → u.oneCell' = true) (k : Nat) (hk : k < xs.length) :
    Calls Tryz.prog 46 #[v, .int .i64 k, .int .i64 ((k : Int) + 1)] w fun e w' => ∃ v', e = .returned v' ∧ Own w' A 20 1 v' (xs.length - 1) (xs.eraseIdx k) ∧ Chg A w w' := by
  obtain ⟨va, cap, hv⟩ := own.sl
  subst hv
  obtain ⟨g, o, rfl, hS, hg, hcap, hmax⟩ := own.some_ (by omega)
  obtain ⟨i0, hi, hz0, hz1, hz2⟩ := info_parts info20
  obtain ⟨news, hnews⟩ : ∃ news, news = xs.drop (k + 1) := ⟨_, rfl⟩
  have hlen : news.length = xs.length - (k + 1) := by rw [hnews]; simp
  obtain ⟨A', hA, hsrc⟩ : ∃ A' : Addr, (if cap = k + 1 then some (⟨g, o, none⟩ : Addr) else some ⟨g, o + (k + 1), none⟩) = some A' ∧ Hid (∀ t u, news[t]? = some u → w.drew.cell? (A'.add t) = some u) := by
    by_cases h : cap = k + 1
    · refine ⟨⟨g, o, none⟩, by simp [h], fun t u hu => ?_⟩
      have h0 : news.length = 0 := by rw [hlen]; omega
      rw [List.length_eq_zero_iff.1 h0] at hu
      simp at hu
    · refine ⟨⟨g, o + (k + 1), none⟩, by simp [h], fun t u hu => ?_⟩
      have ht : t < xs.length - (k + 1) := by
        have := (List.getElem?_eq_some_iff.1 hu).1
        rwa [hlen] at this
      rw [hnews, List.getElem?_drop] at hu
      rw [Addr.add_lit, Nat.add_assoc, ← hu]
      exact own.cellAt (k + 1 + t) (by omega)
  have s1 : Hid (news.length = (xs.length - (k + 1)) * 1) := by rw [Nat.mul_one]; exact hlen
  have s2 : Hid (∀ u ∈ news, u.oneCell' = true) := by
    intro u hu
    rw [hnews] at hu
    exact h1 u (List.mem_of_mem_drop hu)
  have s3 : Hid (∀ t, t < news.length → (w.drew.cell? ⟨g, o + k * 1 + t, none⟩).isSome = true ∧ w.drew.frozen? ⟨g, o + k * 1 + t, none⟩ = false) := by
    intro t ht
    rw [hlen] at ht
    rw [Nat.mul_one, Nat.add_assoc]
    have : w.drew.cell? ⟨g, o + (k + t), none⟩ = xs[k + t]? := own.cellAt (k + t) (by omega)
    exact ⟨by rw [this]; simp; omega, own.freeAt _⟩
  obtain ⟨W1, hW1⟩ : ∃ W1, W1 = w.drew.setCells g (o + k * 1) news := ⟨_, rfl⟩
  have hO1 : Own W1 A 20 1 (.slice (some ⟨g, o, none⟩) xs.length cap) xs.length (xs.take k ++ news ++ xs.drop (k + news.length)) := by
    rw [hW1, Nat.mul_one]
    exact own_setCells news k w.drew xs (own.kept (Chg.refl No w).drew) (by rw [hlen]; omega)
  have hC1 : Chg A w W1 := by rw [hW1]; exact chg_setCells hS _ _ _ (Chg.refl A w).drew
  have hcl : ∀ ty, (Builtin.clear_ #[58] ty #[.slice (some ⟨g, o + (k + (xs.length - (k + 1))), none⟩) (xs.length - (k + (xs.length - (k + 1)))) (cap - (k + (xs.length - (k + 1))))]).run Tryz.prog W1 = .ok (.tuple #[]) (W1.setCells g (o + (k + (xs.length - (k + 1)))) (List.replicate (xs.length - (k + (xs.length - (k + 1)))) .nilIface)) :=
    fun ty => Lib.run_clear_slice W1 58 20 ty .nilIface Tryz.underlying58 zero20 rfl rfl g (o + (k + (xs.length - (k + 1)))) _ _ (by omega) (fun t ht => by rw [Nat.add_assoc, hO1.cellAt _ (by omega)]; have := hO1.len; simp only [List.getElem?_eq_getElem (show k + (xs.length - (k + 1)) + t < (xs.take k ++ news ++ xs.drop (k + news.length)).length by omega)]; rfl) (fun t ht => hO1.freeAt _)
  have HE : Hid ((xs.take k ++ news ++ xs.drop (k + news.length)).take (xs.length - 1) = xs.eraseIdx k) := by
    show _ = _
    rw [List.eraseIdx_eq_take_drop_succ, ← hnews, List.take_append_of_le_length (by simp; omega), List.take_of_length_le (by simp; omega)]
  have HW : Hid (W1 = w.drew.setCells g (o + k * 1) news) := hW1
  have HO := Lib.hid hO1
  have HC := Lib.hid hC1
  have HS := Lib.hid hS
  have hkc : k ≤ cap := by omega
  have hk0 : (0 : Int) ≤ (k : Int) + 1 := by omega
  have hk2 : (k : Int) + 1 ≤ (xs.length : Int) := by omega
  have hkc1 : k + 1 ≤ cap := by omega
  clear hW1 hO1 hC1 hnews hlen own h1 hmax hS hz0 hz2
  go_enter Tryz.func46, Tryz.ntmps46
  go_wp2_with fail
  go_region_law (refine step_append_room rfl (.tmp 22) (.tmp 25) 58 rfl 20 i0 1 Tryz.underlying58 hi hz1 g o k cap (by simp [Act.eval, Act.put]) A' (xs.length - (k + 1)) (cap - (k + 1)) news (by simp [Act.eval, Act.put]) s1.out hsrc.out s2.out (by omega) s3.out ?_; rw [← HW.out])
  go_wp2
  go_ret
  refine ⟨_, rfl, ?_, chg_setCells HS.out _ _ _ HC.out⟩
  have := own_clear HO.out (k + (xs.length - (k + 1))) (by omega) (List.replicate (xs.length - (k + (xs.length - (k + 1)))) .nilIface)
  rw [show k + (xs.length - (k + 1)) = xs.length - 1 by omega] at this ⊢
  rw [HE.out] at this
  exact this
end Go.Proofs.YtdgphoemjeakaaaGreatDoor.G
