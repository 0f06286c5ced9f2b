/- What the card of TopDrains needs: the wrap, MaxLen's cell, the settings that came in. -/
import Derived.Test.YtdgphoemjeakaaaGreatDoorProg
import Derived.Test.YtdgphoemjeakaaaGreatDoorR09
import Derived.ProofKit
import Derived.OpenShut
import Derived.Deep.Fields
import Derived.HandedShaped
import Derived.Shelf.Vars
import Derived.Lib.SmallJoins
namespace Go.Proofs.YtdgphoemjeakaaaGreatDoor.topDrains
open Go Go.ChangeShapes Go.WideShapes Go.ChangeAt Go.RowKit Go.Deep Mg
set_option maxRecDepth 100000
theorem wrap {H : Type} {enc : TypeId × Value → H} {a : Assume} {C : Checked} {os : Os} {f : FuncId} {fn : Func} {s : ChangeSpec} {conds : List PathCond} {apart fresh handsOn again : Bool} {X : World → Array Value → Prop}
    (hX : ∀ (w w' : World) (args : Array Value), w.heap = w'.heap → X w args → X w' args)
    (own : ownKnob C.prog.godebug = none) (started : os.Started) (noInit : C.prog.inits.idxOf? f = none) (hfn : C.prog.funcs[f]? = some fn)
    (witness : ∃ (w : World) (tape : Tape) (i : Input), w.os = os ∧ (w.forCall tape i).Shaped C.prog ∧ i.vars = [] ∧ Input.okWide C.prog (w.forCall tape i) .any w.heap.size f i ∧
      ((s.pre enc C.prog fn conds apart (w.forCall tape i).memory i.args ∧ X (w.forCall tape i).memory i.args) ∧ sizedMet enc C.prog fn (OpenSpec.ofChange s) apart (w.forCall tape i).memory i.args) ∧ a.holds C.prog (lone (Frame.enter C.prog f i.args .normal) [] (w.forCall tape i)))
    (contract : ∀ (W : World) (base : Nat) (args : Array Value) (ds gs : List (DataW H)) (before : List MemPlace),
      (∀ (j : Nat) t v, fn.params[j]? = some t → args[j]? = some v → Value.okWide C.prog W .any base t v) →
      DataW.Whole enc C.prog fn.params.toList s.vars apart W args.toList ds gs before → W.ShapedOpen C.prog →
      Calls C.prog f args W fun e W' => ∃ v, e = .returned v ∧ s.post enc C.prog fn apart fresh handsOn again W args v W') :
    ReturnsInHanded a C os f .any (fun w args => (s.pre enc C.prog fn conds apart w args ∧ X w args) ∧ sizedMet enc C.prog fn (OpenSpec.ofChange s) apart w args) (s.post enc C.prog fn apart fresh handsOn again) := by
  have _ := hX
  refine returnsInHanded_of_calls own started noInit witness ?_
  intro w tape i _ hsh _ hok hpre hholds
  obtain ⟨_, _, _, fn', hfn', _, _, _, _, hval⟩ := hok
  have e : fn' = fn := Option.some.inj (hfn'.symm.trans hfn)
  subst e
  obtain ⟨⟨⟨ds, gs, before, hw, hc⟩, hx⟩, hz⟩ := hpre
  have hw' := DataW.Whole.of_heap (w' := w.forCall tape i) (by rfl) hw
  refine (contract (w.forCall tape i) w.heap.size i.args ds gs before hval hw' hsh).mono fun e W' ⟨v, he, hp⟩ => ?_
  subst he
  exact ChangeSpec.post_blind hp
theorem maxLen_cell {w : World} (h : w.ShapedOpen Tryz.prog) : ∃ m, w.cell? ⟨0, 0, none⟩ = some (.int .i64 m) := by
  have hg : ∃ (t : TypeId) (z : Array Value), ((begin Tryz.prog (fun _ _ => 0) default).world.heap[0]?).bind Obj.row? = some (z, t) ∧ z.size = 1 ∧ Tryz.prog.buildable t = true ∧ Tryz.prog.cellTypes Tryz.prog.depth t = some [t] ∧ Tryz.prog.underlying t = some (.int .i64) :=
    ⟨3, #[.int .i64 0], by kernel_rfl, by kernel_rfl, by kernel_rfl, by kernel_rfl, by kernel_rfl⟩
  obtain ⟨t, z, h0, hz, hb, hc, hu⟩ := hg
  exact Go.Proofs.cell_of_shapedOpen_int h (of_decide_eq_true (by kernel_rfl)) h0 hz hb hc hu
theorem nums_of {P : Program} {t : TypeId} {fs : Array Field} {H : Type} {enc : TypeId × Value → H} {w : World} {base b0 : Nat} {r : Reach} {ps : List MemPlace} {a : Value} {d : DataW H} (he : P.underlying t = some (.struct fs)) (hone : oneCellFields P fs = true) (hC : P.cellsOf t = 20) (hsz : fs.size = 20) (hall : (fs.all fun f => match P.underlying f.type with | some (.int .i64) => true | _ => false) = true)
    (hv : Value.okWide P w r b0 t a) (h : DataW.Trod enc P w base (fun _ => true) true t a d ps) : ∃ v, a = .agg (cf v) := by
  obtain ⟨cs, rfl, hcs⟩ := okWide_struct he hv
  rw [hC] at hcs
  obtain ⟨fuel, hf⟩ := h
  obtain ⟨ys, n', _, _, hlen, hyl, hfl⟩ := DataW.trod_struct he hf
  have hL : (Value.cells (.agg cs)).toList = cs.toList := rfl
  have hl : cs.toList.length = 20 := by rw [Array.length_toList]; exact hcs
  have key : ∀ j, j < 20 → ∃ n : Int, cs[j]? = some (.int .i64 n) := by
    intro j hj
    have hfj : fs[j]? = some (fs[j]'(by omega)) := Array.getElem?_eq_getElem (by omega)
    generalize fs[j]'(by omega) = f at hfj
    obtain ⟨ho, hk⟩ := hone_of hone j f hfj
    have hu : P.underlying f.type = some (.int .i64) := by
      have hb := Array.all_eq_true'.1 hall f (Array.mem_of_getElem? hfj)
      generalize P.underlying f.type = u at hb
      match u, hb with
      | some (.int .i64), _ => rfl
    have h1 := hfl j f hfj
    rw [hL, ho, hk] at h1
    have hone' : (cs.toList.drop j).take 1 = [cs.toList[j]'(by omega)] := by
      rw [List.drop_eq_getElem_cons (by omega)]
      rfl
    rw [hone'] at h1
    have hys : ys[j]? = some (ys[j]'(by omega)) := List.getElem?_eq_getElem (by omega)
    obtain ⟨k, hk', _, _⟩ := DataW.trod_int hu (h1.trans hys)
    refine ⟨k, ?_⟩
    have h2 : cs.toList[j]'(by omega) = .int .i64 k := List.head_eq_of_cons_eq hk'
    have h4 : cs.toList[j]? = some (.int .i64 k) := by rw [List.getElem?_eq_getElem (by omega), h2]
    rw [← Array.getElem?_toList]
    exact h4
  have key' : ∀ j, ∃ n : Int, j < 20 → cs[j]? = some (.int .i64 n) := fun j => by
    by_cases h : j < 20
    · obtain ⟨n, hn⟩ := key j h
      exact ⟨n, fun _ => hn⟩
    · exact ⟨0, fun h1 => absurd h1 h⟩
  refine ⟨fun j => (key' j).choose, ?_⟩
  have hch : ∀ j, j < 20 → cs[j]? = some (.int .i64 ((fun j => (key' j).choose) j)) := fun j hj => (key' j).choose_spec hj
  generalize (fun j => (key' j).choose) = v at hch
  congr 1
  apply Array.ext_getElem?
  intro j
  by_cases hj : j < 20
  · rw [hch j hj]
    match j, hj with
    | 0, _ | 1, _ | 2, _ | 3, _ | 4, _ | 5, _ | 6, _ | 7, _ | 8, _ | 9, _ | 10, _ | 11, _ | 12, _ | 13, _ | 14, _ | 15, _ | 16, _ | 17, _ | 18, _ | 19, _ => rfl
    | n + 20, h => omega
  · rw [Array.getElem?_eq_none (by omega), Array.getElem?_eq_none (by rw [cf_size]; omega)]
theorem cf_of {H : Type} {enc : TypeId × Value → H} {w : World} {base b0 : Nat} {r : Reach} {ps : List MemPlace} {a : Value} {d : DataW H} (hv : Value.okWide Tryz.prog w r b0 24 a)
    (h : DataW.Trod enc Tryz.prog w base (fun _ => true) true 24 a d ps) : ∃ v, a = .agg (cf v) :=
  nums_of (P := Tryz.prog) (t := 24) Tryz.underlying24 (by kernel_rfl) (by kernel_rfl) (by kernel_rfl) (by kernel_rfl) hv h
end Go.Proofs.YtdgphoemjeakaaaGreatDoor.topDrains
