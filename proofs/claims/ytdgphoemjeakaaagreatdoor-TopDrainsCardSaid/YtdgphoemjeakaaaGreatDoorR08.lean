/- A region that draws its order, where some operations lay what is not known ahead. A region that draws its order: each operation is looked at as if all that it leans on had its last value. conf.Wrong, conf.May over any settings. -/
import Derived.Test.YtdgphoemjeakaaaGreatDoorR07
import Derived.Deep.MidRow
namespace Go.Proofs.YtdgphoemjeakaaaGreatDoor.Rg
open Go.RowKit K W
section
variable {ops : Array Oper} {l l' : Lay} {t0 : Array Value} {Wd Wd' : (Nat → Bool) → World → Prop} {L : Nat → Bool} {a : Act} {w w' : World}
theorem RInv.rewd (h : RInv ops l t0 Wd L a w) (hw : Wd' L w') : RInv ops l t0 Wd' L a w' := ⟨h.ds, h.sz, h.lb, h.got, h.off, h.cl, hw⟩
theorem RInv.pre (h : RInv ops l t0 Wd L a w) (hn : (dsts l).Nodup) {j : Tmp} {k : Nat} {u v : Value} (hk : l[k]? = some (some j, u)) (hL : L k = false) (ht : t0[j]? = some v) : a.tmps[j]? = some v := by
  rw [h.off j fun i v' hi => ?_]
  · exact ht
  · rw [nodup_at hn hi hk]; exact hL
theorem RInv.swap (h : RInv ops l t0 Wd L a w) (hf : l'.map Prod.fst = l.map Prod.fst) (hs : ∀ j, L j = true → l'[j]? = l[j]?) : RInv ops l' t0 (fun _ _ => True) L a w := by
  have hlen : l'.length = l.length := by have := congrArg List.length hf; simpa using this
  refine ⟨h.ds, h.sz, fun k hk => h.lb k (by omega), fun i d v hi hL => h.got i d v ((hs i hL) ▸ hi) hL, fun j hj => h.off j fun i v hi => ?_, h.cl, trivial⟩
  have h1 : (l'.map Prod.fst)[i]? = some (some j) := by rw [hf, List.getElem?_map, hi]; rfl
  rw [List.getElem?_map] at h1
  cases h2 : l'[i]? with
  | none => rw [h2] at h1; cases h1
  | some y =>
    rw [h2] at h1
    obtain ⟨y1, y2⟩ := y
    have h3 : y1 = some j := by simpa using h1
    subst h3
    exact hj i y2 h2
end
def acycB (ops : Array Oper) : Bool := (List.range ops.size).all fun i => ((ops[i]?).map fun o => o.after.all fun e => !(Region.binds .any e) || decide (e.on < i)).getD true
theorem acycB_spec {ops : Array Oper} (h : acycB ops = true) : ∀ (i : Nat) o, ops[i]? = some o → ∀ e ∈ o.after, Region.binds .any e = true → e.on < i := by
  intro i o ho e he hb
  unfold acycB at h
  rw [List.all_eq_true] at h
  have h1 := h i (List.mem_range.2 (Array.getElem?_eq_some_iff.1 ho).1)
  simp only [ho, Option.map_some, Option.getD_some] at h1
  rw [Array.all_eq_true'] at h1
  have h2 := h1 e he
  rw [hb] at h2
  simpa using h2
inductive Ex {X : Type} (p : X → Prop) : Prop
  | mk (x : X) (h : p x) : Ex p
def RStepX {X : Type} (P : Program) (ops : Array Oper) (l : X → Lay) (t0 : Array Value) (Wd : X → (Nat → Bool) → World → Prop) (Q : Exit → Act → World → Prop) (i : Nat) : Prop :=
  ∀ (x : X) (L : Nat → Bool) (o : Oper) (a : Act) (w : World), ops[i]? = some o → L i = false → (∀ e ∈ o.after, Region.binds .any e = true → L e.on = true) → RInv ops (l x) t0 (Wd x) L a w → wpOp P ops Q i (fun a' w' => Ex fun x' => RInv ops (l x') t0 (Wd x') (fun j => j == i || L j) a' w') a w
theorem wp_regX {P : Program} {X : Type} {id : Nat} {ops : Array Oper} {Q : Exit → Act → World → Prop} {l : X → Lay} {t0 : Array Value} {Wd : X → (Nat → Bool) → World → Prop} {w : World} (n : Nat) (hm : P.follows .mixedOrders = true) (hac : acycB ops = true) (hsz : ops.size = n) (hln : ∀ x, (l x).length = n) (hn : ∀ x, (dsts (l x)).Nodup) (hb : ∀ x, (dsts (l x)).all (fun d => decide (d < t0.size)) = true)
    (x0 : X) (start : Wd x0 (fun _ => false) w.drew) (step : ∀ i, i < n → RStepX P ops l t0 Wd Q i) (fin : ∀ x L w', (∀ i, i < n → L i = true) → Wd x L w' → Q .normal ⟨puts (l x) t0, []⟩ w') : (Code.region id ops true).wp P Q ⟨t0, []⟩ w := by
  refine wp_region_any hm (wpAny_inv (ops := ops) (fun L a w => Ex fun x => RInv ops (l x) t0 (Wd x) L a w) (acycB_spec hac) (fun L i o a w ho hL hd hI => ?_) (fun L a w hl hI => ?_) _ _ _ _ ?_ ?_ ?_)
  · have := (Array.getElem?_eq_some_iff.1 ho).1
    obtain ⟨x, hI⟩ := hI
    exact step i (by omega) x L o a w ho hL hd hI
  · obtain ⟨x, hI⟩ := hI
    have hl' : ∀ i, i < n → L i = true := fun i hi => hl i (by omega)
    rw [hI.all (hn x) (hb x) (fun i hi => hl' i (by rw [hln] at hi; exact hi))]
    exact fin x L w hl' hI.wd
  · simp
  · rw [Array.toList_replicate, List.count_replicate_self]; exact Nat.le_refl _
  · have h0 : (fun j => (Array.replicate ops.size false).getD j false) = fun _ => false := funext fun j => by
      rw [Array.getD_eq_getD_getElem?, Array.getElem?_replicate]
      split <;> rfl
    rw [h0]
    exact ⟨x0, rfl, rfl, fun _ _ => rfl, fun _ _ _ _ h => by simp at h, fun _ _ => rfl, fun _ _ _ h => by simp at h, start⟩
end Go.Proofs.YtdgphoemjeakaaaGreatDoor.Rg
namespace Go.Proofs.YtdgphoemjeakaaaGreatDoor.Rg
open Go.RowKit K W
def anc (ops : Array Oper) : Nat → Nat → Nat → Bool
  | 0, _, _ => false
  | n + 1, i, k => match ops[i]? with
    | none => false
    | some o => o.after.any fun e => Region.binds .any e && (e.on == k || anc ops n e.on k)
abbrev Known := List (Tmp × Value)
def look (l : Lay) (k0 : Known) (t : Tmp) : Value := match k0.find? fun p => p.1 == t with
  | some p => p.2
  | none => match l.find? fun p => p.1 == some t with
    | some p => p.2
    | none => undef
def ev (l : Lay) (k0 : Known) : Operand → Value
  | .tmp t => look l k0 t
  | .const v => v
  | .global g => .pointer (some ⟨g, 0, none⟩)
  | .func f => .func (.func f) #[] #[]
def wish (ops : Array Oper) (l : Lay) (k0 : Known) (o : Oper) : Bool := match o.guard with
  | none => true
  | some (j, want) => (match (ops[j]?).bind (·.dst) with
    | some t => (match look l k0 t with
      | .bool b => some b
      | _ => none)
    | none => none) == some want
def flow (ops : Array Oper) (k0 : List Tmp) (n i : Nat) : Bool := match ops[i]? with
  | none => false
  | some o => (o.looksAt ops).all fun t => match ops.toList.findIdx? fun p => p.dst == some t with
    | none => k0.contains t
    | some k => if k0.contains t then k == i || anc ops n k i else anc ops n i k
section
variable {ops : Array Oper} {l : Lay} {t0 : Array Value} {Wd : (Nat → Bool) → World → Prop} {L : Nat → Bool} {a : Act} {w : World}
theorem RInv.anc (h : RInv ops l t0 Wd L a w) : ∀ (n : Nat) {i k : Nat} {o : Oper}, ops[i]? = some o → (∀ e ∈ o.after, Region.binds .any e = true → L e.on = true) → Rg.anc ops n i k = true → L k = true
  | 0, _, _, _, _, _, hk => by simp [Rg.anc] at hk
  | n + 1, i, k, o, ho, hd, hk => by
    rw [Rg.anc, ho] at hk
    dsimp only at hk
    rw [Array.any_eq_true'] at hk
    obtain ⟨e, he, hb⟩ := hk
    rw [Bool.and_eq_true, Bool.or_eq_true] at hb
    have hL := hd e he hb.1
    rcases hb.2 with hb | hb
    · rw [beq_iff_eq] at hb
      rwa [hb] at hL
    · cases ho' : ops[e.on]? with
      | none =>
        cases n with
        | zero => simp [Rg.anc] at hb
        | succ n => rw [Rg.anc, ho'] at hb; cases hb
      | some o' => exact RInv.anc h n ho' (h.cl e.on o' ho' hL) hb
theorem look_put {l : Lay} {k0 : Known} {k : Nat} {t : Tmp} {v : Value} (hn : (dsts l).Nodup) (hk : l[k]? = some (some t, v)) (h0 : (k0.map Prod.fst).contains t = false) : look l k0 t = v := by
  unfold look
  have hk0 : k0.find? (fun p => p.1 == t) = none := by
    rw [List.find?_eq_none]
    intro p hp hpt
    have : (k0.map Prod.fst).contains t = true := List.contains_iff_mem.2 (List.mem_map.2 ⟨p, hp, by simpa using hpt⟩)
    rw [h0] at this
    cases this
  rw [hk0]
  dsimp only
  cases hf : l.find? (fun p => p.1 == some t) with
  | none =>
    rw [List.find?_eq_none] at hf
    exact absurd (hf _ (List.mem_of_getElem? hk)) (by simp)
  | some p =>
    obtain ⟨p1, p2⟩ := p
    have h1 := List.find?_some hf
    simp at h1
    subst h1
    obtain ⟨j, hj⟩ := List.getElem?_of_mem (List.mem_of_find?_eq_some hf)
    have := nodup_at hn hj hk
    subst this
    rw [hj] at hk
    cases hk
    rfl
theorem look_known {l : Lay} {k0 : Known} {t : Tmp} (hk0 : ∀ t v, (t, v) ∈ k0 → t0[t]? = some v) (h : (k0.map Prod.fst).contains t = true) : t0[t]? = some (Rg.look l k0 t) := by
  unfold Rg.look
  obtain ⟨⟨t', v⟩, hp, hpt⟩ := List.mem_map.1 (List.contains_iff_mem.1 h)
  cases hf2 : k0.find? (fun p => p.1 == t) with
  | none =>
    rw [List.find?_eq_none] at hf2
    exact absurd (hf2 _ hp) (by simpa using hpt)
  | some q =>
    obtain ⟨q1, q2⟩ := q
    have h5 := List.find?_some hf2
    simp at h5
    subst h5
    exact hk0 _ _ (List.mem_of_find?_eq_some hf2)
theorem RInv.look (h : RInv ops l t0 Wd L a w) {k0 : Known} (hn : (dsts l).Nodup) (hd : l.map Prod.fst = ops.toList.map Oper.dst) (hk0 : ∀ t v, (t, v) ∈ k0 → t0[t]? = some v) {n i : Nat} {o : Oper} (ho : ops[i]? = some o) (hdep : ∀ e ∈ o.after, Region.binds .any e = true → L e.on = true) (hL : L i = false) (hf : flow ops (k0.map Prod.fst) n i = true) :
    ∀ t, t ∈ o.looksAt ops → a.tmps[t]? = some (Rg.look l k0 t) := by
  intro t ht
  unfold flow at hf
  rw [ho] at hf
  dsimp only at hf
  have h1 := List.all_eq_true.1 hf t ht
  have hw : ∀ k : Nat, ops[k]?.map Oper.dst = l[k]?.map Prod.fst := fun k => by
    have := congrArg (fun m : List (Option Tmp) => m[k]?) hd
    simp only [List.getElem?_map, Array.getElem?_toList] at this
    exact this.symm
  cases hx : ops.toList.findIdx? (fun p => p.dst == some t) with
  | none =>
    rw [hx] at h1
    dsimp only at h1
    have hno : ∀ (k : Nat) (v : Value), l[k]? ≠ some (some t, v) := fun k v hk => by
      have h2 := hw k
      rw [hk] at h2
      cases h3 : ops[k]? with
      | none => rw [h3] at h2; cases h2
      | some p =>
        rw [h3] at h2
        rw [List.findIdx?_eq_none_iff] at hx
        have h4 := hx p (by have := List.mem_of_getElem? (l := ops.toList) (i := k) (by rw [Array.getElem?_toList]; exact h3); exact this)
        simp at h2
        simp [h2] at h4
    rw [h.off t fun k v hk => absurd hk (hno k v)]
    exact look_known hk0 h1
  | some k =>
    rw [hx] at h1
    dsimp only at h1
    obtain ⟨hkl, h2, _⟩ := List.findIdx?_eq_some_iff_getElem.1 hx
    have h3 : ops[k]? = some ops.toList[k] := by rw [← Array.getElem?_toList]; exact List.getElem?_eq_getElem hkl
    have h4 := hw k
    rw [h3] at h4
    simp at h2
    cases hlk : l[k]? with
    | none => rw [hlk] at h4; cases h4
    | some q =>
      obtain ⟨q1, q2⟩ := q
      rw [hlk] at h4
      simp at h4 h2
      rw [h2] at h4
      subst h4
      by_cases h0 : (k0.map Prod.fst).contains t = true
      · rw [if_pos h0, Bool.or_eq_true] at h1
        have hLk : L k = false := by
          cases hc : L k with
          | false => rfl
          | true =>
            rcases h1 with h1 | h1
            · rw [beq_iff_eq.1 h1, hL] at hc; cases hc
            · have := h.anc n h3 (h.cl k _ h3 hc) h1
              rw [hL] at this; cases this
        exact h.pre hn hlk hLk (look_known hk0 h0)
      · rw [if_neg h0] at h1
        rw [h.got k t q2 hlk (h.anc n ho hdep h1), look_put hn hlk (by simpa using h0)]
theorem exec_ev {o : Oper} {k0 : Known} (hs : ∀ cs b, o.op ≠ .select cs b) (h : ∀ t, t ∈ o.looksAt ops → a.tmps[t]? = some (Rg.look l k0 t)) : execOp a.eval o = execOp (ev l k0) o := by
  refine execOp_congr o hs fun x hx => ?_
  cases x with
  | tmp t =>
    have := h t (List.mem_append_left _ (List.mem_filterMap.2 ⟨.tmp t, by simpa using hx, rfl⟩))
    show a.tmps.getD t undef = Rg.look l k0 t
    rw [Array.getD_eq_getD_getElem?, this]
    rfl
  | const v => rfl
  | global g => rfl
  | func f => rfl
theorem wish_ev {o : Oper} {k0 : Known} (h : ∀ t, t ∈ o.looksAt ops → a.tmps[t]? = some (Rg.look l k0 t)) : Region.wanted o (yielded ops a.tmps) = wish ops l k0 o := by
  unfold Region.wanted wish
  cases hg : o.guard with
  | none => rfl
  | some gw =>
    obtain ⟨j, want⟩ := gw
    dsimp only
    unfold yielded
    cases ht : (ops[j]?).bind (·.dst) with
    | none => rfl
    | some t =>
      have := h t (List.mem_append_right _ (by rw [hg]; dsimp only; rw [ht]; simp))
      simp only [Option.bind_some, this]
      cases look l k0 t <;> rfl
end
def Does (P : Program) (d : Option Tmp) (K : Value → World → Prop) : Result Next → Prop
  | .ok (.value v) w => K v w
  | .ok .skip w => d = none ∧ K undef w
  | .ok (.enter f args) w => Calls P f args w fun e w' => ∃ v, e = .returned v ∧ K v w'
  | _ => False
theorem upon_does {P : Program} {o : Oper} {a : Act} {N : Act → World → Prop} {Q : Exit → Act → World → Prop} {K : Value → World → Prop} {r : Result Next} (h : Does P o.dst K r) (hN : ∀ v w, K v w → N (a.put o.dst v) w) : o.upon P a N Q r := by
  unfold Does at h
  split at h
  · exact hN _ _ h
  · exact hN _ _ h.2
  · refine Calls.mono h ?_
    rintro e w' ⟨v, rfl, hk⟩
    exact hN _ _ hk
  · exact h.elim
section
variable {P : Program} {ops : Array Oper} {X : Type} {l : X → Lay} {k0 : Known} {t0 : Array Value} {Wd : X → (Nat → Bool) → World → Prop} {Q : Exit → Act → World → Prop}
def tidy (ops : Array Oper) (k0 : List Tmp) (n sz : Nat) : Bool := acycB ops && ((List.range ops.size).all (flow ops k0 n) && (ops.toList.all (fun o => match o.op with
  | .select _ _ => false
  | _ => true) && ((ops.toList.filterMap Oper.dst).all (fun d => decide (d < sz)) && decide (ops.toList.filterMap Oper.dst).Nodup)))
def Kn (t0 : Array Value) (k0 : Known) : Prop := ∀ p, p ∈ k0 → t0[p.1]? = some p.2
theorem Kn.nil {t0 : Array Value} : Kn t0 [] := fun _ h => nomatch h
theorem Kn.cons {t0 : Array Value} {k0 : Known} {t : Tmp} {v : Value} (h : t0[t]? = some v) (k : Kn t0 k0) : Kn t0 ((t, v) :: k0) := List.forall_mem_cons.2 ⟨h, k⟩
structure Flows (ops : Array Oper) (l : X → Lay) (k0 : Known) (t0 : Array Value) (n : Nat) : Prop where
  nd : ∀ x, (dsts (l x)).Nodup
  ds : ∀ x, (l x).map Prod.fst = ops.toList.map Oper.dst
  bd : ∀ x d, d ∈ dsts (l x) → d < t0.size
  kn : ∀ t v, (t, v) ∈ k0 → t0[t]? = some v
  fl : ∀ i, i < ops.size → flow ops (k0.map Prod.fst) n i = true
  ac : acycB ops = true
  ns : ∀ (i : Nat) o, ops[i]? = some o → ∀ cs b, o.op ≠ .select cs b
theorem Flows.of {n sz : Nat} (h : tidy ops (k0.map Prod.fst) n sz = true) (hz : t0.size = sz) (ds : ∀ x, (l x).map Prod.fst = ops.toList.map Oper.dst) (kn : Kn t0 k0) : Flows ops l k0 t0 n := by
  unfold tidy at h
  rw [Bool.and_eq_true, Bool.and_eq_true, Bool.and_eq_true, Bool.and_eq_true] at h
  obtain ⟨h1, h2, h3, h4, h5⟩ := h
  have e : ∀ x, dsts (l x) = ops.toList.filterMap Oper.dst := fun x => by
    have := congrArg (List.filterMap id) (ds x)
    rw [List.filterMap_map, List.filterMap_map] at this
    exact this
  refine ⟨fun x => by rw [e]; exact of_decide_eq_true h5, ds, fun x d hd => ?_, fun t v h => kn (t, v) h, fun i hi => List.all_eq_true.1 h2 i (List.mem_range.2 hi), h1, fun i o ho cs b hc => ?_⟩
  · rw [e] at hd
    rw [hz]
    exact of_decide_eq_true (List.all_eq_true.1 h4 d hd)
  · have := List.all_eq_true.1 h3 o (by have := List.mem_of_getElem? (l := ops.toList) (i := i) (by rw [Array.getElem?_toList]; exact ho); exact this)
    rw [hc] at this
    cases this
theorem wp_flow {n : Nat} (F : Flows ops l k0 t0 n) {id : Nat} {w : World} (hm : P.follows .mixedOrders = true) (x0 : X) (start : Wd x0 (fun _ => false) w.drew) (step : ∀ i, i < ops.size → RStepX P ops l t0 Wd Q i) (fin : ∀ x L w', (∀ i, i < ops.size → L i = true) → Wd x L w' → Q .normal ⟨puts (l x) t0, []⟩ w') : (Code.region id ops true).wp P Q ⟨t0, []⟩ w :=
  wp_regX ops.size hm F.ac rfl (fun x => by have := congrArg List.length (F.ds x); simpa using this) F.nd (fun x => List.all_eq_true.2 fun d hd => decide_eq_true (F.bd x d hd)) x0 start step fin
theorem stepX {n i : Nat} {o : Oper} (F : Flows ops l k0 t0 n) (ho : ops[i]? = some o)
    (body : ∀ (x : X) (L : Nat → Bool) (w : World), L i = false → (∀ k, anc ops n i k = true → L k = true) → (∀ k, L k = true → ∀ m, anc ops m k i = false) → Wd x L w →
      if wish ops (l x) k0 o = true then Does P o.dst (fun v w' => ∃ x', (∀ j, L j = true → (l x')[j]? = (l x)[j]?) ∧ (∃ u, (l x')[i]? = some (o.dst, u) ∧ (o.dst = none ∨ v = u)) ∧ Wd x' (fun j => j == i || L j) w') ((execOp (ev (l x) k0) o).run P w)
      else ∃ u, (l x)[i]? = some (o.dst, u) ∧ (o.dst = none ∨ undef = u) ∧ Wd x (fun j => j == i || L j) w) : RStepX P ops l t0 Wd Q i := by
  intro x L o' a w ho' hL hd hI
  obtain rfl : o = o' := Option.some.inj (ho.symm.trans ho')
  have hi : i < ops.size := (Array.getElem?_eq_some_iff.1 ho).1
  have hs := F.ns i o ho
  have hlk := hI.look (F.nd x) (F.ds x) F.kn ho hd hL (F.fl i hi)
  have hanc : ∀ k, anc ops n i k = true → L k = true := fun k hk => hI.anc n ho hd hk
  have hnot : ∀ k, L k = true → ∀ m, anc ops m k i = false := fun k hk m => by
    cases hc : anc ops m k i with
    | false => rfl
    | true =>
      cases hok : ops[k]? with
      | none =>
        cases m with
        | zero => cases hc
        | succ m => rw [anc, hok] at hc; cases hc
      | some ok =>
        have := hI.anc m hok (hI.cl k ok hok hk) hc
        rw [hL] at this
        cases this
  have b := body x L w hL hanc hnot hI.wd
  have put : ∀ (x' : X) (v u : Value) (w' : World), (∀ j, L j = true → (l x')[j]? = (l x)[j]?) → (l x')[i]? = some (o.dst, u) → (o.dst = none ∨ v = u) → Wd x' (fun j => j == i || L j) w' → Ex fun x' => RInv ops (l x') t0 (Wd x') (fun j => j == i || L j) (a.put o.dst v) w' := fun x' v u w' h1 h2 h3 h4 => by
    refine ⟨x', RInv.rewd (Wd := fun _ _ => True) (w := w) ?_ h4⟩
    have h5 : (l x').map Prod.fst = (l x).map Prod.fst := (F.ds x').trans (F.ds x).symm
    exact (hI.swap h5 h1).put (F.nd x') i ho hd o.dst v u h2 h3 (fun e he => F.bd x' e (List.mem_filterMap.2 ⟨_, List.mem_of_getElem? h2, he⟩)) trivial
  unfold wpOp
  rw [ho]
  dsimp only
  rw [wish_ev hlk]
  by_cases hw : wish ops (l x) k0 o = true
  · rw [if_pos hw]
    rw [if_pos hw] at b
    left
    unfold Oper.wp
    rw [exec_ev hs hlk]
    refine upon_does b ?_
    rintro v w' ⟨x', h1, ⟨u, h2, h3⟩, h4⟩
    exact put x' v u w' h1 h2 h3 h4
  · rw [if_neg hw]
    rw [if_neg hw] at b
    obtain ⟨u, h2, h3, h4⟩ := b
    exact put x undef u w (fun _ _ => rfl) h2 h3 h4
theorem stepP {n i : Nat} {o : Oper} {v : X → Value} (F : Flows ops l k0 t0 n) (ho : ops[i]? = some o) (hw : ∀ x, wish ops (l x) k0 o = true) (hv : ∀ x w, (execOp (ev (l x) k0) o).run P w = .ok (.value (v x)) w) (hl : ∀ x, (l x)[i]? = some (o.dst, v x))
    (hW : ∀ x L w, Wd x L w → Wd x (fun j => j == i || L j) w) : RStepX P ops l t0 Wd Q i :=
  stepX F ho fun x L w _ _ _ hx => by
    rw [if_pos (hw x), hv x w]
    exact ⟨x, fun _ _ => rfl, ⟨_, hl x, .inr rfl⟩, hW x L w hx⟩
theorem stepN {n i : Nat} {o : Oper} (F : Flows ops l k0 t0 n) (ho : ops[i]? = some o) (hw : ∀ x, wish ops (l x) k0 o = false) (hl : ∀ x, (l x)[i]? = some (o.dst, undef))
    (hW : ∀ x L w, Wd x L w → Wd x (fun j => j == i || L j) w) : RStepX P ops l t0 Wd Q i :=
  stepX F ho fun x L w _ _ _ hx => by
    rw [if_neg (by rw [hw x]; decide)]
    exact ⟨_, hl x, .inr rfl, hW x L w hx⟩
theorem stepR {n i : Nat} {o : Oper} {v : X → Value} (F : Flows ops l k0 t0 n) (ho : ops[i]? = some o) (hw : ∀ x, wish ops (l x) k0 o = true) (hl : ∀ x, (l x)[i]? = some (o.dst, v x))
    (hv : ∀ (x : X) (L : Nat → Bool) (w : World), L i = false → (∀ k, anc ops n i k = true → L k = true) → (∀ k, L k = true → ∀ m, anc ops m k i = false) → Wd x L w → Does P o.dst (fun u w' => (o.dst = none ∨ u = v x) ∧ Wd x (fun j => j == i || L j) w') ((execOp (ev (l x) k0) o).run P w)) : RStepX P ops l t0 Wd Q i :=
  stepX F ho fun x L w h1 h2 h3 hx => by
    rw [if_pos (hw x)]
    have h := hv x L w h1 h2 h3 hx
    generalize (execOp (ev (l x) k0) o).run P w = r at h
    unfold Does at h ⊢
    split at h
    · exact ⟨x, fun _ _ => rfl, ⟨_, hl x, h.1⟩, h.2⟩
    · exact ⟨h.1, x, fun _ _ => rfl, ⟨_, hl x, h.2.1⟩, h.2.2⟩
    · refine Calls.mono h ?_
      rintro e w' ⟨u, rfl, h4, h5⟩
      exact ⟨u, rfl, x, fun _ _ => rfl, ⟨_, hl x, h4⟩, h5⟩
    · exact h
theorem load_one {ty : TypeId} {d : TypeDesc} {ad : Addr} {v : Value} {w : World} (hu : P.underlying ty = some d) (hd : d.isRow = false) (h : w.cell? ad = some v) : (Instr.loadAt ty (.pointer (some ad))).run P w = .ok v w := by
  have hagg : (isAgg ty).run P w = .ok false w := by
    unfold isAgg
    rw [Sem.run_bind, run_underlying hu w]
    cases d <;> simp_all
  simp only [Instr.loadAt, Instr.sureAddr, loadVar, Sem.run_bind, Sem.run_pure, Result.andThen_ok, hagg]
  rw [if_neg (by decide), Go.run_load, h]
theorem stepL {n i : Nat} {o : Oper} {v : X → Value} {ty : TypeId} {d : TypeDesc} {u : Operand} (ad : X → Addr) (F : Flows ops l k0 t0 n) (ho : ops[i]? = some o) (hw : ∀ x, wish ops (l x) k0 o = true) (hl : ∀ x, (l x)[i]? = some (o.dst, v x))
    (hop : o.op = .load ty u) (he : ∀ x, ev (l x) k0 u = .pointer (some (ad x))) (hu : P.underlying ty = some d) (hd : d.isRow = false)
    (hc : ∀ (x : X) (L : Nat → Bool) (w : World), L i = false → (∀ k, anc ops n i k = true → L k = true) → (∀ k, L k = true → ∀ m, anc ops m k i = false) → Wd x L w → w.cell? (ad x) = some (v x) ∧ Wd x (fun j => j == i || L j) w) : RStepX P ops l t0 Wd Q i :=
  stepR F ho hw hl fun x L w h1 h2 h3 hx => by
    obtain ⟨h4, h5⟩ := hc x L w h1 h2 h3 hx
    unfold execOp
    simp only [hop, he, Sem.run_bind, load_one hu hd h4, Result.andThen_ok, Sem.run_pure]
    exact ⟨.inr rfl, h5⟩
theorem stepC {n i : Nat} {o : Oper} {v : X → Value} (f : FuncId) (args : X → Array Value) (F : Flows ops l k0 t0 n) (ho : ops[i]? = some o) (hw : ∀ x, wish ops (l x) k0 o = true) (hl : ∀ x, (l x)[i]? = some (o.dst, v x))
    (he : ∀ x w, (execOp (ev (l x) k0) o).run P w = .ok (.enter f (args x)) w)
    (hc : ∀ (x : X) (L : Nat → Bool) (w : World), L i = false → (∀ k, anc ops n i k = true → L k = true) → (∀ k, L k = true → ∀ m, anc ops m k i = false) → Wd x L w → Calls P f (args x) w fun e w' => e = .returned (v x) ∧ Wd x (fun j => j == i || L j) w') : RStepX P ops l t0 Wd Q i :=
  stepR F ho hw hl fun x L w h1 h2 h3 hx => by
    rw [he]
    exact (hc x L w h1 h2 h3 hx).mono fun e w' ⟨h4, h5⟩ => ⟨_, h4, .inr rfl, h5⟩
end
end Go.Proofs.YtdgphoemjeakaaaGreatDoor.Rg
namespace Go.Proofs.YtdgphoemjeakaaaGreatDoor.Mg
open Go.RowKit K W Rg
def cf (v : Nat → Int) : Array Value := #[.int .i64 (v 0), .int .i64 (v 1), .int .i64 (v 2), .int .i64 (v 3), .int .i64 (v 4), .int .i64 (v 5), .int .i64 (v 6), .int .i64 (v 7), .int .i64 (v 8), .int .i64 (v 9), .int .i64 (v 10), .int .i64 (v 11), .int .i64 (v 12), .int .i64 (v 13), .int .i64 (v 14), .int .i64 (v 15), .int .i64 (v 16), .int .i64 (v 17), .int .i64 (v 18), .int .i64 (v 19)]
def wi (n lo hi : Int) : Bool := decide (lo ≤ n) && decide (n ≤ hi)
noncomputable def opsM : Array Oper := reg Tryz.f39 4
noncomputable def nm (i : Nat) : Value := match (opsM[i]?).map Oper.op with
  | some (Op.build _ fs) => match fs[0]?.map Prod.snd with
    | some (Operand.const v) => v
    | _ => undef
  | _ => undef
noncomputable def lay (v : Nat → Int) (tp : Int) (g9 g13 : Bool) (B N : Nat) : Lay := [(some 11, .pointer (some ⟨B, 0, none⟩)),
  (some 12, .int .i64 (v 0)),
  (some 13, .iface 2 (.int .i64 (v 0))),
  (some 14, .bool (wi (v 0) 10 1000000)),
  (some 15, .agg #[nm 4, .bool (wi (v 0) 10 1000000)]),
  (some 16, .pointer (some ⟨B, 1, none⟩)),
  (some 17, .int .i64 (v 1)),
  (some 18, .iface 2 (.int .i64 (v 1))),
  (some 19, .bool (wi (v 1) 100 1000)),
  (some 20, .agg #[nm 9, .bool (wi (v 1) 100 1000)]),
  (some 21, .pointer (some ⟨B, 2, none⟩)),
  (some 22, .int .i64 (v 2)),
  (some 23, .iface 3 (.int .i64 (v 2))),
  (some 24, .bool (wi (v 2) 6 600)),
  (some 25, .agg #[nm 14, .bool (wi (v 2) 6 600)]),
  (some 26, .pointer (some ⟨B, 3, none⟩)),
  (some 27, .int .i64 (v 3)),
  (some 28, .iface 3 (.int .i64 (v 3))),
  (some 29, .pointer (some ⟨B, 2, none⟩)),
  (some 30, .int .i64 (v 2)),
  (some 31, .bool (wi (v 3) 1 (v 2))),
  (some 32, .agg #[nm 21, .bool (wi (v 3) 1 (v 2))]),
  (some 33, .pointer (some ⟨B, 4, none⟩)),
  (some 34, .int .i64 (v 4)),
  (some 35, .iface 3 (.int .i64 (v 4))),
  (some 36, .pointer (some ⟨B, 3, none⟩)),
  (some 37, .int .i64 (v 3)),
  (some 38, .bool (wi (v 4) 1 (v 3))),
  (some 39, .agg #[nm 28, .bool (wi (v 4) 1 (v 3))]),
  (some 40, .pointer (some ⟨B, 5, none⟩)),
  (some 41, .int .i64 (v 5)),
  (some 42, .iface 2 (.int .i64 (v 5))),
  (some 43, .bool (wi (v 5) 1100 10000)),
  (some 44, .agg #[nm 33, .bool (wi (v 5) 1100 10000)]),
  (some 45, .pointer (some ⟨B, 6, none⟩)),
  (some 46, .int .i64 (v 6)),
  (some 47, .iface 2 (.int .i64 (v 6))),
  (some 48, .bool (wi (v 6) 1001 1000000)),
  (some 49, .agg #[nm 38, .bool (wi (v 6) 1001 1000000)]),
  (some 50, .pointer (some ⟨B, 7, none⟩)),
  (some 51, .int .i64 (v 7)),
  (some 52, .iface 2 (.int .i64 (v 7))),
  (some 53, .bool (wi (v 7) 1001 1000000)),
  (some 54, .agg #[nm 43, .bool (wi (v 7) 1001 1000000)]),
  (some 55, .pointer (some ⟨B, 8, none⟩)),
  (some 56, .int .i64 (v 8)),
  (some 57, .iface 3 (.int .i64 (v 8))),
  (some 58, .bool (wi (v 8) 0 100)),
  (some 59, .agg #[nm 48, .bool (wi (v 8) 0 100)]),
  (some 60, .pointer (some ⟨B, 9, none⟩)),
  (some 61, .int .i64 (v 9)),
  (some 62, .bool g9),
  (some 63, .bool g9),
  (some 64, cond g9 undef (.pointer (some ⟨B, 9, none⟩))),
  (some 65, cond g9 undef (.int .i64 (v 9))),
  (some 66, cond g9 undef (.iface 3 (.int .i64 (v 9)))),
  (some 67, cond g9 undef (.pointer (some ⟨B, 8, none⟩))),
  (some 68, cond g9 undef (.int .i64 (v 8))),
  (some 69, cond g9 undef (.int .i64 (max (v 8) 1))),
  (some 70, cond g9 undef (.bool (wi (v 9) (max (v 8) 1) 100))),
  (some 71, .bool (g9 || wi (v 9) (max (v 8) 1) 100)),
  (some 72, .agg #[nm 61, .bool (g9 || wi (v 9) (max (v 8) 1) 100)]),
  (some 73, .pointer (some ⟨B, 10, none⟩)),
  (some 74, .int .i64 (v 10)),
  (some 75, .iface 3 (.int .i64 (v 10))),
  (some 76, .int .i64 tp),
  (some 77, .bool (wi (v 10) 0 tp)),
  (some 78, .agg #[nm 67, .bool (wi (v 10) 0 tp)]),
  (some 79, .pointer (some ⟨B, 11, none⟩)),
  (some 80, .int .i64 (v 11)),
  (some 81, .iface 3 (.int .i64 (v 11))),
  (some 82, .bool (wi (v 11) 0 600)),
  (some 83, .agg #[nm 72, .bool (wi (v 11) 0 600)]),
  (some 84, .pointer (some ⟨B, 12, none⟩)),
  (some 85, .int .i64 (v 12)),
  (some 86, .iface 3 (.int .i64 (v 12))),
  (some 87, .bool (wi (v 12) 0 600)),
  (some 88, .agg #[nm 77, .bool (wi (v 12) 0 600)]),
  (some 89, .pointer (some ⟨B, 13, none⟩)),
  (some 90, .int .i64 (v 13)),
  (some 91, .bool g13),
  (some 92, .bool g13),
  (some 93, cond g13 undef (.pointer (some ⟨B, 13, none⟩))),
  (some 94, cond g13 undef (.int .i64 (v 13))),
  (some 95, cond g13 undef (.iface 2 (.int .i64 (v 13)))),
  (some 96, cond g13 undef (.bool (wi (v 13) 0 100000000))),
  (some 97, .bool (g13 || wi (v 13) 0 100000000)),
  (some 98, .agg #[nm 87, .bool (g13 || wi (v 13) 0 100000000)]),
  (some 99, .pointer (some ⟨B, 14, none⟩)),
  (some 100, .int .i64 (v 14)),
  (some 101, .iface 3 (.int .i64 (v 14))),
  (some 102, .bool (wi (v 14) 1 1000)),
  (some 103, .agg #[nm 92, .bool (wi (v 14) 1 1000)]),
  (some 104, .pointer (some ⟨B, 15, none⟩)),
  (some 105, .int .i64 (v 15)),
  (some 106, .iface 3 (.int .i64 (v 15))),
  (some 107, .bool (wi (v 15) 0 200)),
  (some 108, .agg #[nm 97, .bool (wi (v 15) 0 200)]),
  (some 109, .pointer (some ⟨B, 16, none⟩)),
  (some 110, .int .i64 (v 16)),
  (some 111, .iface 3 (.int .i64 (v 16))),
  (some 112, .bool (wi (v 16) 1 10000)),
  (some 113, .agg #[nm 102, .bool (wi (v 16) 1 10000)]),
  (some 114, .pointer (some ⟨B, 17, none⟩)),
  (some 115, .int .i64 (v 17)),
  (some 116, .iface 3 (.int .i64 (v 17))),
  (some 117, .bool (wi (v 17) 0 100)),
  (some 118, .agg #[nm 107, .bool (wi (v 17) 0 100)]),
  (some 119, .pointer (some ⟨B, 18, none⟩)),
  (some 120, .int .i64 (v 18)),
  (some 121, .iface 3 (.int .i64 (v 18))),
  (some 122, .bool (wi (v 18) 0 100)),
  (some 123, .agg #[nm 112, .bool (wi (v 18) 0 100)]),
  (some 124, .pointer (some ⟨B, 19, none⟩)),
  (some 125, .int .i64 (v 19)),
  (some 126, .iface 3 (.int .i64 (v 19))),
  (some 127, .bool (wi (v 19) 0 100)),
  (some 128, .agg #[nm 117, .bool (wi (v 19) 0 100)]),
  (some 129, .slice (some ⟨N, 0, none⟩) 20 20),
  (some 130, .int .i64 20),
  (some 131, .int .i64 0)]
noncomputable def parts (v : Nat → Int) (tp : Int) (g9 g13 : Bool) : Array Value := #[nm 4, .bool (wi (v 0) 10 1000000), nm 9, .bool (wi (v 1) 100 1000), nm 14, .bool (wi (v 2) 6 600), nm 21, .bool (wi (v 3) 1 (v 2)), nm 28, .bool (wi (v 4) 1 (v 3)), nm 33, .bool (wi (v 5) 1100 10000), nm 38, .bool (wi (v 6) 1001 1000000), nm 43, .bool (wi (v 7) 1001 1000000), nm 48, .bool (wi (v 8) 0 100), nm 61, .bool (g9 || wi (v 9) (max (v 8) 1) 100), nm 67, .bool (wi (v 10) 0 tp), nm 72, .bool (wi (v 11) 0 600), nm 77, .bool (wi (v 12) 0 600), nm 87, .bool (g13 || wi (v 13) 0 100000000), nm 92, .bool (wi (v 14) 1 1000), nm 97, .bool (wi (v 15) 0 200), nm 102, .bool (wi (v 16) 1 10000), nm 107, .bool (wi (v 17) 0 100), nm 112, .bool (wi (v 18) 0 100), nm 117, .bool (wi (v 19) 0 100)]
set_option maxHeartbeats 1000000 in
theorem within_any (T : TypeId) (n lo hi : Int) (w : World) (hT : T = 2 ∨ T = 3) : Calls Tryz.prog 72 #[.iface T (.int .i64 n), .int .i64 lo, .int .i64 hi] w fun e w' => e = .returned (.bool (wi n lo hi)) ∧ w' = w := by
  unfold wi
  by_cases h0 : lo ≤ n
  · have k0 : decide (lo ≤ n) = true := decide_eq_true h0
    rcases hT with rfl | rfl
    all_goals
      go_enter Tryz.func72, Tryz.ntmps72
      go_wp2
      go_ret
      try rw [k0]
      exact ⟨rfl, rfl⟩
  · have k0 : decide (lo ≤ n) = false := decide_eq_false h0
    rcases hT with rfl | rfl
    all_goals
      go_enter Tryz.func72, Tryz.ntmps72
      go_wp2
      go_ret
      try rw [k0]
      exact ⟨rfl, rfl⟩
structure On (v : Nat → Int) (tp : Int) (g9 g13 : Bool) (B N : Nat) (w0 : World) (L : Nat → Bool) (w : World) : Prop where
  ch : Chg No w0 w
  blk : Blk w B (cf v) 24
  pre : L 118 = false → w.heap.size = N
  post : L 118 = true → Blk w N (parts v tp g9 g13) 126
theorem On.next {v : Nat → Int} {tp : Int} {g9 g13 : Bool} {B N : Nat} {w0 : World} {L : Nat → Bool} {w : World} (h : On v tp g9 g13 B N w0 L w) {i : Nat} (hi : ((118 : Nat) == i) = false) : On v tp g9 g13 B N w0 (fun j => j == i || L j) w :=
  ⟨h.ch, h.blk, by simp only [hi, Bool.false_or]; exact h.pre, by simp only [hi, Bool.false_or]; exact h.post⟩
set_option maxHeartbeats 8000000 in
set_option maxRecDepth 1000000 in
theorem wp_wrong {id : Nat} {Q : Exit → Act → World → Prop} {v : Nat → Int} {tp : Int} {g9 g13 : Bool} {B : Nat} {t0 : Array Value} {w1 : World} (h9 : (v 9 == 0) = g9) (h13 : (v 13 == -1000) = g13) (hs : t0.size = 141) (h1 : t0[1]? = some (.pointer (some ⟨B, 0, none⟩))) (h3 : t0[3]? = some (.int .i64 tp)) (hb : Blk w1 B (cf v) 24)
    (hend : ∀ w', Chg No w1 w' → Blk w' w1.heap.size (parts v tp g9 g13) 126 → Q .normal ⟨puts (lay v tp g9 g13 B w1.heap.size) t0, []⟩ w') : (Code.region id opsM true).wp Tryz.prog Q ⟨t0, []⟩ w1 := by
  have sz : opsM.size = 121 := by kernel_rfl
  have F : Flows (X := Unit) opsM (fun _ => lay v tp g9 g13 B w1.heap.size) [(1, .pointer (some ⟨B, 0, none⟩)), (3, .int .i64 tp)] t0 3 := Flows.of (by kernel_rfl) hs (fun _ => by kernel_rfl) (.cons h1 (.cons h3 .nil))
  refine wp_flow (Wd := fun _ L w => On v tp g9 g13 B w1.heap.size w1 L w) F rfl () ⟨(Chg.refl No w1).drew, hb, fun _ => rfl, fun h => nomatch h⟩ (fun i hi => ?_) (fun x L w' hl hw => hend w' hw.ch (hw.post (hl 118 (by rw [sz]; decide))))
  rw [sz] at hi
  generalize w1.heap.size = N at *
  cases g9 <;> cases g13
  all_goals
    match i, hi with
    | 0, _ => exact stepP F rfl (fun _ => rfl) (fun _ _ => by kernel_rfl) (fun _ => rfl) (fun _ _ _ h => h.next rfl)
    | 1, _ => exact stepL (fun _ => ⟨B, 0, none⟩) F rfl (fun _ => rfl) (fun _ => rfl) rfl (fun _ => rfl) Tryz.underlying2 rfl (fun _ _ _ _ _ _ h => ⟨h.blk.cell 0, h.next rfl⟩)
    | 2, _ => exact stepP F rfl (fun _ => rfl) (fun _ _ => by kernel_rfl) (fun _ => rfl) (fun _ _ _ h => h.next rfl)
    | 3, _ => exact stepC 72 (fun _ => #[.iface 2 (.int .i64 (v 0)), .int .i64 10, .int .i64 1000000]) F rfl (fun _ => rfl) (fun _ => rfl) (fun _ _ => by kernel_rfl) (fun _ _ w _ _ _ h => (within_any 2 _ _ _ w (by decide)).mono fun _ _ ⟨he, hw⟩ => ⟨he, hw ▸ h.next rfl⟩)
    | 4, _ => exact stepP F rfl (fun _ => rfl) (fun _ _ => by kernel_rfl) (fun _ => rfl) (fun _ _ _ h => h.next rfl)
    | 5, _ => exact stepP F rfl (fun _ => rfl) (fun _ _ => by kernel_rfl) (fun _ => rfl) (fun _ _ _ h => h.next rfl)
    | 6, _ => exact stepL (fun _ => ⟨B, 1, none⟩) F rfl (fun _ => rfl) (fun _ => rfl) rfl (fun _ => rfl) Tryz.underlying2 rfl (fun _ _ _ _ _ _ h => ⟨h.blk.cell 1, h.next rfl⟩)
    | 7, _ => exact stepP F rfl (fun _ => rfl) (fun _ _ => by kernel_rfl) (fun _ => rfl) (fun _ _ _ h => h.next rfl)
    | 8, _ => exact stepC 72 (fun _ => #[.iface 2 (.int .i64 (v 1)), .int .i64 100, .int .i64 1000]) F rfl (fun _ => rfl) (fun _ => rfl) (fun _ _ => by kernel_rfl) (fun _ _ w _ _ _ h => (within_any 2 _ _ _ w (by decide)).mono fun _ _ ⟨he, hw⟩ => ⟨he, hw ▸ h.next rfl⟩)
    | 9, _ => exact stepP F rfl (fun _ => rfl) (fun _ _ => by kernel_rfl) (fun _ => rfl) (fun _ _ _ h => h.next rfl)
    | 10, _ => exact stepP F rfl (fun _ => rfl) (fun _ _ => by kernel_rfl) (fun _ => rfl) (fun _ _ _ h => h.next rfl)
    | 11, _ => exact stepL (fun _ => ⟨B, 2, none⟩) F rfl (fun _ => rfl) (fun _ => rfl) rfl (fun _ => rfl) Tryz.underlying3 rfl (fun _ _ _ _ _ _ h => ⟨h.blk.cell 2, h.next rfl⟩)
    | 12, _ => exact stepP F rfl (fun _ => rfl) (fun _ _ => by kernel_rfl) (fun _ => rfl) (fun _ _ _ h => h.next rfl)
    | 13, _ => exact stepC 72 (fun _ => #[.iface 3 (.int .i64 (v 2)), .int .i64 6, .int .i64 600]) F rfl (fun _ => rfl) (fun _ => rfl) (fun _ _ => by kernel_rfl) (fun _ _ w _ _ _ h => (within_any 3 _ _ _ w (by decide)).mono fun _ _ ⟨he, hw⟩ => ⟨he, hw ▸ h.next rfl⟩)
    | 14, _ => exact stepP F rfl (fun _ => rfl) (fun _ _ => by kernel_rfl) (fun _ => rfl) (fun _ _ _ h => h.next rfl)
    | 15, _ => exact stepP F rfl (fun _ => rfl) (fun _ _ => by kernel_rfl) (fun _ => rfl) (fun _ _ _ h => h.next rfl)
    | 16, _ => exact stepL (fun _ => ⟨B, 3, none⟩) F rfl (fun _ => rfl) (fun _ => rfl) rfl (fun _ => rfl) Tryz.underlying3 rfl (fun _ _ _ _ _ _ h => ⟨h.blk.cell 3, h.next rfl⟩)
    | 17, _ => exact stepP F rfl (fun _ => rfl) (fun _ _ => by kernel_rfl) (fun _ => rfl) (fun _ _ _ h => h.next rfl)
    | 18, _ => exact stepP F rfl (fun _ => rfl) (fun _ _ => by kernel_rfl) (fun _ => rfl) (fun _ _ _ h => h.next rfl)
    | 19, _ => exact stepL (fun _ => ⟨B, 2, none⟩) F rfl (fun _ => rfl) (fun _ => rfl) rfl (fun _ => rfl) Tryz.underlying3 rfl (fun _ _ _ _ _ _ h => ⟨h.blk.cell 2, h.next rfl⟩)
    | 20, _ => exact stepC 72 (fun _ => #[.iface 3 (.int .i64 (v 3)), .int .i64 1, .int .i64 (v 2)]) F rfl (fun _ => rfl) (fun _ => rfl) (fun _ _ => by kernel_rfl) (fun _ _ w _ _ _ h => (within_any 3 _ _ _ w (by decide)).mono fun _ _ ⟨he, hw⟩ => ⟨he, hw ▸ h.next rfl⟩)
    | 21, _ => exact stepP F rfl (fun _ => rfl) (fun _ _ => by kernel_rfl) (fun _ => rfl) (fun _ _ _ h => h.next rfl)
    | 22, _ => exact stepP F rfl (fun _ => rfl) (fun _ _ => by kernel_rfl) (fun _ => rfl) (fun _ _ _ h => h.next rfl)
    | 23, _ => exact stepL (fun _ => ⟨B, 4, none⟩) F rfl (fun _ => rfl) (fun _ => rfl) rfl (fun _ => rfl) Tryz.underlying3 rfl (fun _ _ _ _ _ _ h => ⟨h.blk.cell 4, h.next rfl⟩)
    | 24, _ => exact stepP F rfl (fun _ => rfl) (fun _ _ => by kernel_rfl) (fun _ => rfl) (fun _ _ _ h => h.next rfl)
    | 25, _ => exact stepP F rfl (fun _ => rfl) (fun _ _ => by kernel_rfl) (fun _ => rfl) (fun _ _ _ h => h.next rfl)
    | 26, _ => exact stepL (fun _ => ⟨B, 3, none⟩) F rfl (fun _ => rfl) (fun _ => rfl) rfl (fun _ => rfl) Tryz.underlying3 rfl (fun _ _ _ _ _ _ h => ⟨h.blk.cell 3, h.next rfl⟩)
    | 27, _ => exact stepC 72 (fun _ => #[.iface 3 (.int .i64 (v 4)), .int .i64 1, .int .i64 (v 3)]) F rfl (fun _ => rfl) (fun _ => rfl) (fun _ _ => by kernel_rfl) (fun _ _ w _ _ _ h => (within_any 3 _ _ _ w (by decide)).mono fun _ _ ⟨he, hw⟩ => ⟨he, hw ▸ h.next rfl⟩)
    | 28, _ => exact stepP F rfl (fun _ => rfl) (fun _ _ => by kernel_rfl) (fun _ => rfl) (fun _ _ _ h => h.next rfl)
    | 29, _ => exact stepP F rfl (fun _ => rfl) (fun _ _ => by kernel_rfl) (fun _ => rfl) (fun _ _ _ h => h.next rfl)
    | 30, _ => exact stepL (fun _ => ⟨B, 5, none⟩) F rfl (fun _ => rfl) (fun _ => rfl) rfl (fun _ => rfl) Tryz.underlying2 rfl (fun _ _ _ _ _ _ h => ⟨h.blk.cell 5, h.next rfl⟩)
    | 31, _ => exact stepP F rfl (fun _ => rfl) (fun _ _ => by kernel_rfl) (fun _ => rfl) (fun _ _ _ h => h.next rfl)
    | 32, _ => exact stepC 72 (fun _ => #[.iface 2 (.int .i64 (v 5)), .int .i64 1100, .int .i64 10000]) F rfl (fun _ => rfl) (fun _ => rfl) (fun _ _ => by kernel_rfl) (fun _ _ w _ _ _ h => (within_any 2 _ _ _ w (by decide)).mono fun _ _ ⟨he, hw⟩ => ⟨he, hw ▸ h.next rfl⟩)
    | 33, _ => exact stepP F rfl (fun _ => rfl) (fun _ _ => by kernel_rfl) (fun _ => rfl) (fun _ _ _ h => h.next rfl)
    | 34, _ => exact stepP F rfl (fun _ => rfl) (fun _ _ => by kernel_rfl) (fun _ => rfl) (fun _ _ _ h => h.next rfl)
    | 35, _ => exact stepL (fun _ => ⟨B, 6, none⟩) F rfl (fun _ => rfl) (fun _ => rfl) rfl (fun _ => rfl) Tryz.underlying2 rfl (fun _ _ _ _ _ _ h => ⟨h.blk.cell 6, h.next rfl⟩)
    | 36, _ => exact stepP F rfl (fun _ => rfl) (fun _ _ => by kernel_rfl) (fun _ => rfl) (fun _ _ _ h => h.next rfl)
    | 37, _ => exact stepC 72 (fun _ => #[.iface 2 (.int .i64 (v 6)), .int .i64 1001, .int .i64 1000000]) F rfl (fun _ => rfl) (fun _ => rfl) (fun _ _ => by kernel_rfl) (fun _ _ w _ _ _ h => (within_any 2 _ _ _ w (by decide)).mono fun _ _ ⟨he, hw⟩ => ⟨he, hw ▸ h.next rfl⟩)
    | 38, _ => exact stepP F rfl (fun _ => rfl) (fun _ _ => by kernel_rfl) (fun _ => rfl) (fun _ _ _ h => h.next rfl)
    | 39, _ => exact stepP F rfl (fun _ => rfl) (fun _ _ => by kernel_rfl) (fun _ => rfl) (fun _ _ _ h => h.next rfl)
    | 40, _ => exact stepL (fun _ => ⟨B, 7, none⟩) F rfl (fun _ => rfl) (fun _ => rfl) rfl (fun _ => rfl) Tryz.underlying2 rfl (fun _ _ _ _ _ _ h => ⟨h.blk.cell 7, h.next rfl⟩)
    | 41, _ => exact stepP F rfl (fun _ => rfl) (fun _ _ => by kernel_rfl) (fun _ => rfl) (fun _ _ _ h => h.next rfl)
    | 42, _ => exact stepC 72 (fun _ => #[.iface 2 (.int .i64 (v 7)), .int .i64 1001, .int .i64 1000000]) F rfl (fun _ => rfl) (fun _ => rfl) (fun _ _ => by kernel_rfl) (fun _ _ w _ _ _ h => (within_any 2 _ _ _ w (by decide)).mono fun _ _ ⟨he, hw⟩ => ⟨he, hw ▸ h.next rfl⟩)
    | 43, _ => exact stepP F rfl (fun _ => rfl) (fun _ _ => by kernel_rfl) (fun _ => rfl) (fun _ _ _ h => h.next rfl)
    | 44, _ => exact stepP F rfl (fun _ => rfl) (fun _ _ => by kernel_rfl) (fun _ => rfl) (fun _ _ _ h => h.next rfl)
    | 45, _ => exact stepL (fun _ => ⟨B, 8, none⟩) F rfl (fun _ => rfl) (fun _ => rfl) rfl (fun _ => rfl) Tryz.underlying3 rfl (fun _ _ _ _ _ _ h => ⟨h.blk.cell 8, h.next rfl⟩)
    | 46, _ => exact stepP F rfl (fun _ => rfl) (fun _ _ => by kernel_rfl) (fun _ => rfl) (fun _ _ _ h => h.next rfl)
    | 47, _ => exact stepC 72 (fun _ => #[.iface 3 (.int .i64 (v 8)), .int .i64 0, .int .i64 100]) F rfl (fun _ => rfl) (fun _ => rfl) (fun _ _ => by kernel_rfl) (fun _ _ w _ _ _ h => (within_any 3 _ _ _ w (by decide)).mono fun _ _ ⟨he, hw⟩ => ⟨he, hw ▸ h.next rfl⟩)
    | 48, _ => exact stepP F rfl (fun _ => rfl) (fun _ _ => by kernel_rfl) (fun _ => rfl) (fun _ _ _ h => h.next rfl)
    | 49, _ => exact stepP F rfl (fun _ => rfl) (fun _ _ => by kernel_rfl) (fun _ => rfl) (fun _ _ _ h => h.next rfl)
    | 50, _ => exact stepL (fun _ => ⟨B, 9, none⟩) F rfl (fun _ => rfl) (fun _ => rfl) rfl (fun _ => rfl) Tryz.underlying3 rfl (fun _ _ _ _ _ _ h => ⟨h.blk.cell 9, h.next rfl⟩)
    | 51, _ => exact stepP F rfl (fun _ => rfl) (fun _ w => Eq.trans (b := .ok (.value (.bool (v 9 == 0))) w) (by kernel_rfl) (by rw [h9])) (fun _ => rfl) (fun _ _ _ h => h.next rfl)
    | 52, _ => exact stepP F rfl (fun _ => rfl) (fun _ _ => by kernel_rfl) (fun _ => rfl) (fun _ _ _ h => h.next rfl)
    | 53, _ => first | exact stepP F rfl (fun _ => rfl) (fun _ _ => by kernel_rfl) (fun _ => rfl) (fun _ _ _ h => h.next rfl) | exact stepN F rfl (fun _ => rfl) (fun _ => rfl) (fun _ _ _ h => h.next rfl)
    | 54, _ => first | exact stepL (fun _ => ⟨B, 9, none⟩) F rfl (fun _ => rfl) (fun _ => rfl) rfl (fun _ => rfl) Tryz.underlying3 rfl (fun _ _ _ _ _ _ h => ⟨h.blk.cell 9, h.next rfl⟩) | exact stepN F rfl (fun _ => rfl) (fun _ => rfl) (fun _ _ _ h => h.next rfl)
    | 55, _ => first | exact stepP F rfl (fun _ => rfl) (fun _ _ => by kernel_rfl) (fun _ => rfl) (fun _ _ _ h => h.next rfl) | exact stepN F rfl (fun _ => rfl) (fun _ => rfl) (fun _ _ _ h => h.next rfl)
    | 56, _ => first | exact stepP F rfl (fun _ => rfl) (fun _ _ => by kernel_rfl) (fun _ => rfl) (fun _ _ _ h => h.next rfl) | exact stepN F rfl (fun _ => rfl) (fun _ => rfl) (fun _ _ _ h => h.next rfl)
    | 57, _ => first | exact stepL (fun _ => ⟨B, 8, none⟩) F rfl (fun _ => rfl) (fun _ => rfl) rfl (fun _ => rfl) Tryz.underlying3 rfl (fun _ _ _ _ _ _ h => ⟨h.blk.cell 8, h.next rfl⟩) | exact stepN F rfl (fun _ => rfl) (fun _ => rfl) (fun _ _ _ h => h.next rfl)
    | 58, _ => first | exact stepP F rfl (fun _ => rfl) (fun _ w => Eq.trans (b := .ok (.value (.int .i64 (if 1 > v 8 then 1 else v 8))) w) (by kernel_rfl) (by rw [show (if 1 > v 8 then 1 else v 8) = max (v 8) 1 by split <;> omega]; rfl)) (fun _ => rfl) (fun _ _ _ h => h.next rfl) | exact stepN F rfl (fun _ => rfl) (fun _ => rfl) (fun _ _ _ h => h.next rfl)
    | 59, _ => first | exact stepC 72 (fun _ => #[.iface 3 (.int .i64 (v 9)), .int .i64 (max (v 8) 1), .int .i64 100]) F rfl (fun _ => rfl) (fun _ => rfl) (fun _ _ => by kernel_rfl) (fun _ _ w _ _ _ h => (within_any 3 _ _ _ w (by decide)).mono fun _ _ ⟨he, hw⟩ => ⟨he, hw ▸ h.next rfl⟩) | exact stepN F rfl (fun _ => rfl) (fun _ => rfl) (fun _ _ _ h => h.next rfl)
    | 60, _ => exact stepP F rfl (fun _ => rfl) (fun _ _ => by kernel_rfl) (fun _ => rfl) (fun _ _ _ h => h.next rfl)
    | 61, _ => exact stepP F rfl (fun _ => rfl) (fun _ _ => by kernel_rfl) (fun _ => rfl) (fun _ _ _ h => h.next rfl)
    | 62, _ => exact stepP F rfl (fun _ => rfl) (fun _ _ => by kernel_rfl) (fun _ => rfl) (fun _ _ _ h => h.next rfl)
    | 63, _ => exact stepL (fun _ => ⟨B, 10, none⟩) F rfl (fun _ => rfl) (fun _ => rfl) rfl (fun _ => rfl) Tryz.underlying3 rfl (fun _ _ _ _ _ _ h => ⟨h.blk.cell 10, h.next rfl⟩)
    | 64, _ => exact stepP F rfl (fun _ => rfl) (fun _ _ => by kernel_rfl) (fun _ => rfl) (fun _ _ _ h => h.next rfl)
    | 65, _ => exact stepP F rfl (fun _ => rfl) (fun _ _ => by kernel_rfl) (fun _ => rfl) (fun _ _ _ h => h.next rfl)
    | 66, _ => exact stepC 72 (fun _ => #[.iface 3 (.int .i64 (v 10)), .int .i64 0, .int .i64 tp]) F rfl (fun _ => rfl) (fun _ => rfl) (fun _ _ => by kernel_rfl) (fun _ _ w _ _ _ h => (within_any 3 _ _ _ w (by decide)).mono fun _ _ ⟨he, hw⟩ => ⟨he, hw ▸ h.next rfl⟩)
    | 67, _ => exact stepP F rfl (fun _ => rfl) (fun _ _ => by kernel_rfl) (fun _ => rfl) (fun _ _ _ h => h.next rfl)
    | 68, _ => exact stepP F rfl (fun _ => rfl) (fun _ _ => by kernel_rfl) (fun _ => rfl) (fun _ _ _ h => h.next rfl)
    | 69, _ => exact stepL (fun _ => ⟨B, 11, none⟩) F rfl (fun _ => rfl) (fun _ => rfl) rfl (fun _ => rfl) Tryz.underlying3 rfl (fun _ _ _ _ _ _ h => ⟨h.blk.cell 11, h.next rfl⟩)
    | 70, _ => exact stepP F rfl (fun _ => rfl) (fun _ _ => by kernel_rfl) (fun _ => rfl) (fun _ _ _ h => h.next rfl)
    | 71, _ => exact stepC 72 (fun _ => #[.iface 3 (.int .i64 (v 11)), .int .i64 0, .int .i64 600]) F rfl (fun _ => rfl) (fun _ => rfl) (fun _ _ => by kernel_rfl) (fun _ _ w _ _ _ h => (within_any 3 _ _ _ w (by decide)).mono fun _ _ ⟨he, hw⟩ => ⟨he, hw ▸ h.next rfl⟩)
    | 72, _ => exact stepP F rfl (fun _ => rfl) (fun _ _ => by kernel_rfl) (fun _ => rfl) (fun _ _ _ h => h.next rfl)
    | 73, _ => exact stepP F rfl (fun _ => rfl) (fun _ _ => by kernel_rfl) (fun _ => rfl) (fun _ _ _ h => h.next rfl)
    | 74, _ => exact stepL (fun _ => ⟨B, 12, none⟩) F rfl (fun _ => rfl) (fun _ => rfl) rfl (fun _ => rfl) Tryz.underlying3 rfl (fun _ _ _ _ _ _ h => ⟨h.blk.cell 12, h.next rfl⟩)
    | 75, _ => exact stepP F rfl (fun _ => rfl) (fun _ _ => by kernel_rfl) (fun _ => rfl) (fun _ _ _ h => h.next rfl)
    | 76, _ => exact stepC 72 (fun _ => #[.iface 3 (.int .i64 (v 12)), .int .i64 0, .int .i64 600]) F rfl (fun _ => rfl) (fun _ => rfl) (fun _ _ => by kernel_rfl) (fun _ _ w _ _ _ h => (within_any 3 _ _ _ w (by decide)).mono fun _ _ ⟨he, hw⟩ => ⟨he, hw ▸ h.next rfl⟩)
    | 77, _ => exact stepP F rfl (fun _ => rfl) (fun _ _ => by kernel_rfl) (fun _ => rfl) (fun _ _ _ h => h.next rfl)
    | 78, _ => exact stepP F rfl (fun _ => rfl) (fun _ _ => by kernel_rfl) (fun _ => rfl) (fun _ _ _ h => h.next rfl)
    | 79, _ => exact stepL (fun _ => ⟨B, 13, none⟩) F rfl (fun _ => rfl) (fun _ => rfl) rfl (fun _ => rfl) Tryz.underlying2 rfl (fun _ _ _ _ _ _ h => ⟨h.blk.cell 13, h.next rfl⟩)
    | 80, _ => exact stepP F rfl (fun _ => rfl) (fun _ w => Eq.trans (b := .ok (.value (.bool (v 13 == -1000))) w) (by kernel_rfl) (by rw [h13])) (fun _ => rfl) (fun _ _ _ h => h.next rfl)
    | 81, _ => exact stepP F rfl (fun _ => rfl) (fun _ _ => by kernel_rfl) (fun _ => rfl) (fun _ _ _ h => h.next rfl)
    | 82, _ => first | exact stepP F rfl (fun _ => rfl) (fun _ _ => by kernel_rfl) (fun _ => rfl) (fun _ _ _ h => h.next rfl) | exact stepN F rfl (fun _ => rfl) (fun _ => rfl) (fun _ _ _ h => h.next rfl)
    | 83, _ => first | exact stepL (fun _ => ⟨B, 13, none⟩) F rfl (fun _ => rfl) (fun _ => rfl) rfl (fun _ => rfl) Tryz.underlying2 rfl (fun _ _ _ _ _ _ h => ⟨h.blk.cell 13, h.next rfl⟩) | exact stepN F rfl (fun _ => rfl) (fun _ => rfl) (fun _ _ _ h => h.next rfl)
    | 84, _ => first | exact stepP F rfl (fun _ => rfl) (fun _ _ => by kernel_rfl) (fun _ => rfl) (fun _ _ _ h => h.next rfl) | exact stepN F rfl (fun _ => rfl) (fun _ => rfl) (fun _ _ _ h => h.next rfl)
    | 85, _ => first | exact stepC 72 (fun _ => #[.iface 2 (.int .i64 (v 13)), .int .i64 0, .int .i64 100000000]) F rfl (fun _ => rfl) (fun _ => rfl) (fun _ _ => by kernel_rfl) (fun _ _ w _ _ _ h => (within_any 2 _ _ _ w (by decide)).mono fun _ _ ⟨he, hw⟩ => ⟨he, hw ▸ h.next rfl⟩) | exact stepN F rfl (fun _ => rfl) (fun _ => rfl) (fun _ _ _ h => h.next rfl)
    | 86, _ => exact stepP F rfl (fun _ => rfl) (fun _ _ => by kernel_rfl) (fun _ => rfl) (fun _ _ _ h => h.next rfl)
    | 87, _ => exact stepP F rfl (fun _ => rfl) (fun _ _ => by kernel_rfl) (fun _ => rfl) (fun _ _ _ h => h.next rfl)
    | 88, _ => exact stepP F rfl (fun _ => rfl) (fun _ _ => by kernel_rfl) (fun _ => rfl) (fun _ _ _ h => h.next rfl)
    | 89, _ => exact stepL (fun _ => ⟨B, 14, none⟩) F rfl (fun _ => rfl) (fun _ => rfl) rfl (fun _ => rfl) Tryz.underlying3 rfl (fun _ _ _ _ _ _ h => ⟨h.blk.cell 14, h.next rfl⟩)
    | 90, _ => exact stepP F rfl (fun _ => rfl) (fun _ _ => by kernel_rfl) (fun _ => rfl) (fun _ _ _ h => h.next rfl)
    | 91, _ => exact stepC 72 (fun _ => #[.iface 3 (.int .i64 (v 14)), .int .i64 1, .int .i64 1000]) F rfl (fun _ => rfl) (fun _ => rfl) (fun _ _ => by kernel_rfl) (fun _ _ w _ _ _ h => (within_any 3 _ _ _ w (by decide)).mono fun _ _ ⟨he, hw⟩ => ⟨he, hw ▸ h.next rfl⟩)
    | 92, _ => exact stepP F rfl (fun _ => rfl) (fun _ _ => by kernel_rfl) (fun _ => rfl) (fun _ _ _ h => h.next rfl)
    | 93, _ => exact stepP F rfl (fun _ => rfl) (fun _ _ => by kernel_rfl) (fun _ => rfl) (fun _ _ _ h => h.next rfl)
    | 94, _ => exact stepL (fun _ => ⟨B, 15, none⟩) F rfl (fun _ => rfl) (fun _ => rfl) rfl (fun _ => rfl) Tryz.underlying3 rfl (fun _ _ _ _ _ _ h => ⟨h.blk.cell 15, h.next rfl⟩)
    | 95, _ => exact stepP F rfl (fun _ => rfl) (fun _ _ => by kernel_rfl) (fun _ => rfl) (fun _ _ _ h => h.next rfl)
    | 96, _ => exact stepC 72 (fun _ => #[.iface 3 (.int .i64 (v 15)), .int .i64 0, .int .i64 200]) F rfl (fun _ => rfl) (fun _ => rfl) (fun _ _ => by kernel_rfl) (fun _ _ w _ _ _ h => (within_any 3 _ _ _ w (by decide)).mono fun _ _ ⟨he, hw⟩ => ⟨he, hw ▸ h.next rfl⟩)
    | 97, _ => exact stepP F rfl (fun _ => rfl) (fun _ _ => by kernel_rfl) (fun _ => rfl) (fun _ _ _ h => h.next rfl)
    | 98, _ => exact stepP F rfl (fun _ => rfl) (fun _ _ => by kernel_rfl) (fun _ => rfl) (fun _ _ _ h => h.next rfl)
    | 99, _ => exact stepL (fun _ => ⟨B, 16, none⟩) F rfl (fun _ => rfl) (fun _ => rfl) rfl (fun _ => rfl) Tryz.underlying3 rfl (fun _ _ _ _ _ _ h => ⟨h.blk.cell 16, h.next rfl⟩)
    | 100, _ => exact stepP F rfl (fun _ => rfl) (fun _ _ => by kernel_rfl) (fun _ => rfl) (fun _ _ _ h => h.next rfl)
    | 101, _ => exact stepC 72 (fun _ => #[.iface 3 (.int .i64 (v 16)), .int .i64 1, .int .i64 10000]) F rfl (fun _ => rfl) (fun _ => rfl) (fun _ _ => by kernel_rfl) (fun _ _ w _ _ _ h => (within_any 3 _ _ _ w (by decide)).mono fun _ _ ⟨he, hw⟩ => ⟨he, hw ▸ h.next rfl⟩)
    | 102, _ => exact stepP F rfl (fun _ => rfl) (fun _ _ => by kernel_rfl) (fun _ => rfl) (fun _ _ _ h => h.next rfl)
    | 103, _ => exact stepP F rfl (fun _ => rfl) (fun _ _ => by kernel_rfl) (fun _ => rfl) (fun _ _ _ h => h.next rfl)
    | 104, _ => exact stepL (fun _ => ⟨B, 17, none⟩) F rfl (fun _ => rfl) (fun _ => rfl) rfl (fun _ => rfl) Tryz.underlying3 rfl (fun _ _ _ _ _ _ h => ⟨h.blk.cell 17, h.next rfl⟩)
    | 105, _ => exact stepP F rfl (fun _ => rfl) (fun _ _ => by kernel_rfl) (fun _ => rfl) (fun _ _ _ h => h.next rfl)
    | 106, _ => exact stepC 72 (fun _ => #[.iface 3 (.int .i64 (v 17)), .int .i64 0, .int .i64 100]) F rfl (fun _ => rfl) (fun _ => rfl) (fun _ _ => by kernel_rfl) (fun _ _ w _ _ _ h => (within_any 3 _ _ _ w (by decide)).mono fun _ _ ⟨he, hw⟩ => ⟨he, hw ▸ h.next rfl⟩)
    | 107, _ => exact stepP F rfl (fun _ => rfl) (fun _ _ => by kernel_rfl) (fun _ => rfl) (fun _ _ _ h => h.next rfl)
    | 108, _ => exact stepP F rfl (fun _ => rfl) (fun _ _ => by kernel_rfl) (fun _ => rfl) (fun _ _ _ h => h.next rfl)
    | 109, _ => exact stepL (fun _ => ⟨B, 18, none⟩) F rfl (fun _ => rfl) (fun _ => rfl) rfl (fun _ => rfl) Tryz.underlying3 rfl (fun _ _ _ _ _ _ h => ⟨h.blk.cell 18, h.next rfl⟩)
    | 110, _ => exact stepP F rfl (fun _ => rfl) (fun _ _ => by kernel_rfl) (fun _ => rfl) (fun _ _ _ h => h.next rfl)
    | 111, _ => exact stepC 72 (fun _ => #[.iface 3 (.int .i64 (v 18)), .int .i64 0, .int .i64 100]) F rfl (fun _ => rfl) (fun _ => rfl) (fun _ _ => by kernel_rfl) (fun _ _ w _ _ _ h => (within_any 3 _ _ _ w (by decide)).mono fun _ _ ⟨he, hw⟩ => ⟨he, hw ▸ h.next rfl⟩)
    | 112, _ => exact stepP F rfl (fun _ => rfl) (fun _ _ => by kernel_rfl) (fun _ => rfl) (fun _ _ _ h => h.next rfl)
    | 113, _ => exact stepP F rfl (fun _ => rfl) (fun _ _ => by kernel_rfl) (fun _ => rfl) (fun _ _ _ h => h.next rfl)
    | 114, _ => exact stepL (fun _ => ⟨B, 19, none⟩) F rfl (fun _ => rfl) (fun _ => rfl) rfl (fun _ => rfl) Tryz.underlying3 rfl (fun _ _ _ _ _ _ h => ⟨h.blk.cell 19, h.next rfl⟩)
    | 115, _ => exact stepP F rfl (fun _ => rfl) (fun _ _ => by kernel_rfl) (fun _ => rfl) (fun _ _ _ h => h.next rfl)
    | 116, _ => exact stepC 72 (fun _ => #[.iface 3 (.int .i64 (v 19)), .int .i64 0, .int .i64 100]) F rfl (fun _ => rfl) (fun _ => rfl) (fun _ _ => by kernel_rfl) (fun _ _ w _ _ _ h => (within_any 3 _ _ _ w (by decide)).mono fun _ _ ⟨he, hw⟩ => ⟨he, hw ▸ h.next rfl⟩)
    | 117, _ => exact stepP F rfl (fun _ => rfl) (fun _ _ => by kernel_rfl) (fun _ => rfl) (fun _ _ _ h => h.next rfl)
    | 118, _ => exact stepR F rfl (fun _ => rfl) (fun _ => rfl) (fun _ L w h1 _ _ h => by rw [show (execOp _ _).run Tryz.prog w = .ok (.value (.slice (some ⟨w.heap.size, 0, none⟩) 20 20)) (w.alloc (.cells (parts v tp _ _) 126)) by kernel_rfl]; exact ⟨.inr (by rw [h.pre h1]), h.ch.alloc _, h.blk.alloc _, (fun h => nomatch h), fun _ => h.pre h1 ▸ Blk.new w _ 126⟩)
    | 119, _ => exact stepP F rfl (fun _ => rfl) (fun _ _ => by kernel_rfl) (fun _ => rfl) (fun _ _ _ h => h.next rfl)
    | 120, _ => exact stepP F rfl (fun _ => rfl) (fun _ _ => by kernel_rfl) (fun _ => rfl) (fun _ _ _ h => h.next rfl)
    | n + 121, h => exact absurd h (by omega)
end Go.Proofs.YtdgphoemjeakaaaGreatDoor.Mg
