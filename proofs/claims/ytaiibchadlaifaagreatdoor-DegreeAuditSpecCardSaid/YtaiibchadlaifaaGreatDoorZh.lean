/-
  What is missing: what an audit tells, and how it changes with more attempts and more uses. degree.Audit, both ways in one. Conditions: the arguments read as data, at most 60 attempts.
  A drawn region walked by what holds of it whatever the order so far; the next operation of a head in the text's own order. Conditions: none.
  'append(xs, ys...)' on a row of the call's own, ys a list that reads as data. Conditions: none.
  What holds in the law DegreeMore while the audit of a further attempt is laid out, whatever the order. Conditions: none.
-/
import Derived.Test.YtaiibchadlaifaaGreatDoorZg
set_option linter.unusedVariables false
set_option linter.unusedSimpArgs false

namespace Go.Proofs.YtaiibchadlaifaaGreatDoor
open Go.RowKit Go.Shelf

/-- What is missing where a greatest flow was found. -/
def MissP (p : Prg) (l : List Att) (x : Int) : Prop := ∃ (F : List Int) (C : Int → Bool), MaxSpec (2 + l.length + p.reqs.length) 0 ((1 + l.length + p.reqs.length : Nat) : Int) (netL p l) F C ∧ x = totalC p.reqs - outF (netL p l) F 0

theorem cons_cast {p : Prg} {l : List Att} {F : List Int} (h : conserve (2 + l.length + p.reqs.length) 0 ((1 + l.length + p.reqs.length : Nat) : Int) (netL p l) F) : conserve (2 + l.length + p.reqs.length) 0 (1 + l.length + p.reqs.length) (netL p l) F := by
  rwa [show ((1 + l.length + p.reqs.length : Nat) : Int) = 1 + l.length + p.reqs.length by omega] at h
theorem miss_asg {p : Prg} {l : List Att} {x : Int} (h : MissP p l x) : ∃ us, asgB p.uses p.reqs l us = true ∧ usedC us = totalC p.reqs - x := by
  obtain ⟨F, C, hM, rfl⟩ := h
  have hc := cons_cast hM.cons
  refine ⟨_, asg_of_flow hM.ok hc, ?_⟩
  rw [used_value hM.ok hc]; omega
theorem miss_best {p : Prg} {l : List Att} {x : Int} {us : List Use} (h : MissP p l x) (hc : ∀ a, a ∈ l → 0 ≤ a.cr) (ha : asgB p.uses p.reqs l us = true) : usedC us ≤ totalC p.reqs - x := by
  obtain ⟨F, C, hM, rfl⟩ := h
  have := best_asg hc hM ha
  omega
theorem miss_bd {p : Prg} {l : List Att} {x : Int} (h : MissP p l x) (hlc : ∀ a, a ∈ l → 0 ≤ a.cr ∧ a.cr ≤ 60) : 0 ≤ x ∧ x ≤ totalC p.reqs := by
  obtain ⟨us, h1, h2⟩ := miss_asg h
  obtain ⟨F, C, hM, rfl⟩ := h
  have h3 := value_le_total hM.ok (cons_cast hM.cons)
  have h5 := asgB_c h1 hlc
  have h6 := usedC_bd _ (fun u hu => by have := h5 u hu; omega)
  omega
theorem miss_more {p : Prg} {l : List Att} {a : Att} {x y : Int} (hx : MissP p l x) (hy : MissP p (l ++ [a]) y) (hc : ∀ b, b ∈ l ++ [a] → 0 ≤ b.cr) (hs : 0 ≤ p.uses) : y ≤ x := by
  obtain ⟨us, h1, h2⟩ := miss_asg hx
  have := miss_best hy hc (asgB_more h1 (hc a (by simp)) hs)
  omega
theorem miss_uses {p q : Prg} {l : List Att} {x y : Int} (hx : MissP p l x) (hy : MissP q l y) (hc : ∀ b, b ∈ l → 0 ≤ b.cr) (hq : q.reqs = p.reqs) (hu : q.uses = p.uses + 1) : y ≤ x := by
  obtain ⟨us, h1, h2⟩ := miss_asg hx
  have := miss_best hy hc (by rw [hq, hu]; exact asgB_uses h1 hc)
  rw [hq] at this
  omega
theorem miss_none {p : Prg} {x : Int} (hx : MissP p [] x) : x = totalC p.reqs := by
  obtain ⟨F, C, hM, rfl⟩ := hx
  have := value_mid (p := p) (l := []) hM.ok (cons_cast hM.cons)
  rw [this, show pairsL p.reqs [] = [] from rfl]
  simp [midF]

theorem prgE_uses {p : Prg} (h : prgE p = 0) (hu : p.uses + 1 ≤ 4) (h1 : 1 ≤ p.uses) : prgE { p with uses := p.uses + 1 } = 0 := by
  unfold prgE at h ⊢
  split at h
  · rename_i hh
    rw [Bool.and_eq_true] at hh
    rw [if_pos]
    rw [Bool.and_eq_true]
    refine ⟨?_, hh.2⟩
    have h2 := hh.1
    unfold prgHead at h2 ⊢
    simp only [Bool.and_eq_true] at h2 ⊢
    obtain ⟨⟨⟨⟨⟨a1, a2⟩, a3⟩, a4⟩, a5⟩, a6⟩ := h2
    refine ⟨⟨⟨⟨⟨a1, ?_⟩, a3⟩, a4⟩, a5⟩, a6⟩
    simp only [inB, Bool.and_eq_true, decide_eq_true_eq] at a2 ⊢
    omega
  · cases h
theorem netE_of {p : Prg} {l : List Att} (h : prgE p = 0) (hl : l.all attOk = true) : netE p l = 0 := by
  unfold netE attsE
  rw [if_pos h, if_pos hl]
/-- What degree.Audit returns, as far as what is missing goes. -/
def AuditR (p : Prg) (l : List Att) (w w' : World) (e : Ending) : Prop :=
  Below w.heap.size w w' ∧ ((netE p l = 0 ∧ ∃ AU nU cU AC nC cC x, e = .returned (.tuple #[.agg #[.slice AU nU cU, .int .i64 x, .slice AC nC cC], .int .i64 0]) ∧ MissP p l x) ∨ (netE p l ≠ 0 ∧ e = .returned (.tuple #[.agg #[.slice none 0 0, .int .i64 0, .slice none 0 0], .int .i64 (netE p l)])))
theorem degree_Audit_r (w : World) (p : Prg) (l : List Att) (A Aq : Option Addr) (c cq : Nat) (hl : Rd kAtt w A l) (hq : Rd kReq w Aq p.reqs) (hm : l.length ≤ 60) :
    Calls Tryz.prog 21 #[.agg #[.string p.nm, .int .i64 p.num, .int .i64 p.uses, .int .i64 p.earn, .int .i64 p.mn, .int .i64 p.md, .slice Aq p.reqs.length cq], .slice A l.length c] w fun e w' => AuditR p l w w' e := by
  by_cases hE : netE p l = 0
  · refine (degree_Audit_good w p l A Aq c cq hl hq hm hE).mono ?_
    rintro e w' ⟨F, bys, uv, cb, hspec, hbl, rfl, hown, hcb, hcut, hB⟩
    obtain ⟨AU, cU, rfl, hrd⟩ := rd_uses hown
    refine ⟨hB, .inl ⟨hE, AU, _, cU, _, _, _, _, rfl, F, cutOf bys, hspec, ?_⟩⟩
    rw [used_value hspec.ok (cons_cast hspec.cons)]
  · refine (degree_Audit_bad w p l A Aq c cq hl hq hm hE).mono ?_
    rintro e w' ⟨rfl, hB⟩
    exact ⟨hB, .inr ⟨hE, rfl⟩⟩
end Go.Proofs.YtaiibchadlaifaaGreatDoor

namespace Go.Proofs.YtaiibchadlaifaaGreatDoor
open Go.RowKit Go.Shelf

section
variable {P : Program} {ops : Array Oper} {md : Region.Mode} {S : World → Prop} {Q : Exit → Act → World → Prop}
/-- The head's next operation in the text's own order, which yields in every world of S (or is struck by its guard). -/
theorem wpG_next {n f : Nat} {oi : Oper} {v : Value} {listed : Array Bool} {a : Act} {w : World} (hi : ops[n - (f + 1)]? = some oi) (hB : takeB md ops n (n - (f + 1)) listed = true)
    (hy : YieldsIf P ops S oi v a) (h : wpG P md ops Q S n f (listed.setIfInBounds (n - (f + 1)) true) (a.put oi.dst v) w) : wpG P md ops Q S n (f + 1) listed a w := wpG_take hi hB hy h

theorem mem_ready {listed : Array Bool} {i : Nat} (h : i ∈ Region.ready md ops listed) : ∃ o, ops[i]? = some o ∧ listed.getD i true = false ∧ ∀ e, e ∈ o.after → Region.binds md e = true → listed.getD e.on false = true := by
  unfold Region.ready at h
  rw [List.mem_filter, List.mem_range] at h
  obtain ⟨hi, h⟩ := h
  rw [Bool.and_eq_true] at h
  refine ⟨ops[i], Array.getElem?_eq_getElem hi, by simpa using h.1, fun e he hb => ?_⟩
  have h2 := h.2
  rw [Array.getElem?_eq_getElem hi] at h2
  simp only [Option.map_some, Option.getD_some] at h2
  have := Array.all_eq_true_iff_forall_mem.1 h2 e he
  rw [hb] at this
  simpa using this
theorem ready_of {listed : Array Bool} {i : Nat} {o : Oper} (ho : ops[i]? = some o) (hl : listed.getD i true = false) (h : ∀ e, e ∈ o.after → Region.binds md e = true → listed.getD e.on false = true) : i ∈ Region.ready md ops listed := by
  unfold Region.ready
  have hi := (Array.getElem?_eq_some_iff.1 ho).1
  rw [List.mem_filter, List.mem_range]
  refine ⟨hi, ?_⟩
  rw [ho]
  simp only [hl, Bool.not_false, Bool.true_and, Option.map_some, Option.getD_some]
  refine Array.all_eq_true_iff_forall_mem.2 fun e he => ?_
  cases hb : Region.binds md e
  · rfl
  · simpa using h e he hb

/-- Every operation stands behind all that it waits for. -/
def topoB (md : Region.Mode) (ops : Array Oper) : Nat → Bool
  | 0 => true
  | n + 1 => topoB md ops n && (ops[n]?).all fun o => o.after.all fun e => !Region.binds md e || decide (e.on < n)
theorem all_listed {listed : Array Bool} (hs : listed.size = ops.size) (hr : Region.ready md ops listed = []) : ∀ n, n ≤ ops.size → topoB md ops n = true → ∀ i, i < n → listed.getD i false = true
  | 0, _, _, i, hi => by omega
  | n + 1, hn, ht, i, hi => by
    simp only [topoB, Bool.and_eq_true] at ht
    have ih := all_listed hs hr n (by omega) ht.1
    by_cases hin : i < n
    · exact ih i hin
    · obtain rfl : i = n := by omega
      have ho : ops[i]? = some ops[i] := Array.getElem?_eq_getElem (by omega)
      cases hl : listed.getD i true with
      | true =>
        rw [Array.getD_eq_getD_getElem?, Array.getElem?_eq_getElem (by omega)] at hl ⊢
        exact hl
      | false =>
        have hm : i ∈ Region.ready md ops listed := ready_of ho hl fun e he hb => by
          have h2 := ht.2
          rw [ho] at h2
          have h3 := Array.all_eq_true_iff_forall_mem.1 (show ops[i].after.all (fun e => !Region.binds md e || decide (e.on < i)) = true from h2) e he
          rw [hb] at h3
          exact ih e.on (by simpa using h3)
        rw [hr] at hm
        cases hm

def openN (listed : Array Bool) : Nat := (listed.toList.filter (!·)).length
theorem filter_set {l : List Bool} {i : Nat} (h : l[i]? = some false) : ((l.set i true).filter (!·)).length + 1 = (l.filter (!·)).length := by
  induction l generalizing i with
  | nil => simp at h
  | cons b l ih =>
    cases i with
    | zero => simp at h; subst h; simp
    | succ i =>
      have := ih (i := i) (by simpa using h)
      cases b <;> simp at this ⊢ <;> omega
/-- A drawn region by what holds whatever the order: L tells which operations are behind. -/
theorem wpAny_inv (J : (Nat → Bool) → Act → World → Prop) (ht : topoB md ops ops.size = true)
    (hstep : ∀ (L : Nat → Bool) (a : Act) (w : World) (i : Nat) (o : Oper), ops[i]? = some o → L i = false → (∀ e, e ∈ o.after → Region.binds md e = true → L e.on = true) → J L a w → wpOp P ops Q i (J fun j => decide (j = i) || L j) a w)
    (hend : ∀ (L : Nat → Bool) (a : Act) (w : World), (∀ i, i < ops.size → L i = true) → J L a w → Q .normal a w) :
    ∀ (f : Nat) (listed : Array Bool) (a : Act) (w : World), listed.size = ops.size → openN listed ≤ f → J (fun j => listed.getD j false) a w → wpAny P md ops Q f listed a w := by
  intro f
  induction f with
  | zero =>
    intro listed a w hs hf hJ
    have hr : Region.ready md ops listed = [] := List.eq_nil_iff_forall_not_mem.2 fun i hi => by
      obtain ⟨o, ho, hl, _⟩ := mem_ready hi
      have hi' : i < listed.size := by rw [hs]; exact (Array.getElem?_eq_some_iff.1 ho).1
      have h2 : listed.toList[i]? = some false := by
        rw [Array.getD_eq_getD_getElem?, Array.getElem?_eq_getElem hi'] at hl
        rw [Array.getElem?_toList, Array.getElem?_eq_getElem hi']
        simpa using hl
      have := filter_set h2
      unfold openN at hf
      omega
    exact ⟨hr, hend _ a w (all_listed hs hr _ (Nat.le_refl _) ht) hJ⟩
  | succ f ih =>
    intro listed a w hs hf hJ
    refine ⟨fun hr => hend _ a w (all_listed hs hr _ (Nat.le_refl _) ht) hJ, fun i hi => ?_⟩
    obtain ⟨o, ho, hl, hp⟩ := mem_ready hi
    have hi' : i < listed.size := by rw [hs]; exact (Array.getElem?_eq_some_iff.1 ho).1
    have hl1 : listed[i]? = some false := by
      rw [Array.getD_eq_getD_getElem?, Array.getElem?_eq_getElem hi'] at hl
      rw [Array.getElem?_eq_getElem hi']
      simpa using hl
    have hl2 : listed.getD i false = false := by rw [Array.getD_eq_getD_getElem?, hl1]; rfl
    have hst := hstep (fun j => listed.getD j false) a w i o ho hl2 hp hJ
    have hfun : (fun j => decide (j = i) || listed.getD j false) = fun j => (listed.setIfInBounds i true).getD j false := funext fun j => by
      rw [Array.getD_eq_getD_getElem?, Array.getD_eq_getD_getElem?, Array.getElem?_setIfInBounds]
      by_cases e : i = j
      · subst e; simp [hi']
      · simp [e, Ne.symm e]
    rw [hfun] at hst
    have hlater : ∀ a' w', J (fun j => (listed.setIfInBounds i true).getD j false) a' w' → wpAny P md ops Q f (listed.setIfInBounds i true) a' w' := fun a' w' hJ' => ih _ a' w' (by simpa using hs) (by
      have h2 : listed.toList[i]? = some false := by simpa using hl1
      have := filter_set h2
      unfold openN at hf ⊢
      rw [Array.toList_setIfInBounds]
      omega) hJ'
    unfold wpOp at hst ⊢
    rw [ho] at hst ⊢
    dsimp only at hst ⊢
    split at hst
    · rename_i hw
      rw [if_pos hw]
      exact hst.imp (fun h => Oper.wp_mono hlater h) id
    · rename_i hw
      rw [if_neg hw]
      exact hlater _ _ hst
theorem wp_region_inv {id : Nat} {a : Act} {w : World} (J : (Nat → Bool) → Act → World → Prop) (hm : P.follows .mixedOrders = true) (ht : topoB .any ops ops.size = true)
    (hstep : ∀ (L : Nat → Bool) (a : Act) (w : World) (i : Nat) (o : Oper), ops[i]? = some o → L i = false → (∀ e, e ∈ o.after → Region.binds .any e = true → L e.on = true) → J L a w → wpOp P ops Q i (J fun j => decide (j = i) || L j) a w)
    (hend : ∀ (L : Nat → Bool) (a : Act) (w : World), (∀ i, i < ops.size → L i = true) → J L a w → Q .normal a w)
    (hJ : J (fun _ => false) a w.drew) : (Code.region id ops true).wp P Q a w := by
  refine wp_region_any hm (wpAny_inv J ht hstep hend _ _ _ _ (by simp) (by simp [openN]) ?_)
  have : (fun j => (Array.replicate ops.size false).getD j false) = fun _ => false := funext fun j => by
    rw [Array.getD_eq_getD_getElem?, Array.getElem?_replicate]
    split <;> rfl
  rw [this]
  exact hJ
/-- An operation that yields. -/
theorem wpOp_yield {i : Nat} {o : Oper} {K : Act → World → Prop} {a : Act} {w w' : World} {v : Value} (ho : ops[i]? = some o) (hw : Region.wanted o (yielded ops a.tmps) = true) (hrun : (execOp a.eval o).run P w = .ok (.value v) w') (h : K (a.put o.dst v) w') : wpOp P ops Q i K a w := by
  unfold wpOp
  rw [ho]
  dsimp only
  rw [if_pos hw]
  refine .inl ?_
  unfold Oper.wp
  rw [hrun]
  exact h
/-- An operation that yields nothing (a store). -/
theorem wpOp_skip {i : Nat} {o : Oper} {K : Act → World → Prop} {a : Act} {w w' : World} (ho : ops[i]? = some o) (hw : Region.wanted o (yielded ops a.tmps) = true) (hrun : (execOp a.eval o).run P w = .ok .skip w') (h : K (a.put o.dst undef) w') : wpOp P ops Q i K a w := by
  unfold wpOp
  rw [ho]
  dsimp only
  rw [if_pos hw]
  refine .inl ?_
  unfold Oper.wp
  rw [hrun]
  exact h
/-- An operation that calls. -/
theorem wpOp_call {i : Nat} {o : Oper} {K : Act → World → Prop} {a : Act} {w : World} {g : FuncId} {args : Array Value} (ho : ops[i]? = some o) (hw : Region.wanted o (yielded ops a.tmps) = true) (hrun : (execOp a.eval o).run P w = .ok (.enter g args) w)
    (h : Calls P g args w fun e w' => ∃ v, e = .returned v ∧ K (a.put o.dst v) w') : wpOp P ops Q i K a w := by
  unfold wpOp
  rw [ho]
  dsimp only
  rw [if_pos hw]
  refine .inl ?_
  unfold Oper.wp
  rw [hrun, Oper.upon_enter]
  refine h.mono ?_
  rintro e w' ⟨v, rfl, hk⟩
  exact hk
end
end Go.Proofs.YtaiibchadlaifaaGreatDoor

namespace Go.Proofs.YtaiibchadlaifaaGreatDoor
open Go.RowKit Go.Shelf

theorem flatMap_len {α : Type} {enc : α → List Value} {sz : Nat} (hl : ∀ x, (enc x).length = sz) : ∀ xs : List α, (xs.flatMap enc).length = xs.length * sz
  | [] => by simp
  | x :: xs => by rw [List.flatMap_cons, List.length_append, hl, flatMap_len hl xs, List.length_cons, Nat.succ_mul]; omega
theorem mod_split {i sz : Nat} (_hsz : 0 < sz) : i / sz * sz + i % sz = i := by rw [Nat.mul_comm]; exact Nat.div_add_mod i sz
theorem flatMap_at {α : Type} {enc : α → List Value} {sz : Nat} (hl : ∀ x, (enc x).length = sz) (hsz : 0 < sz) {xs : List α} {i : Nat} {v : Value} (h : (xs.flatMap enc)[i]? = some v) : ∃ x, xs[i / sz]? = some x ∧ (enc x)[i % sz]? = some v := by
  have hi := (List.getElem?_eq_some_iff.1 h).1
  rw [flatMap_len hl] at hi
  have hd : i / sz < xs.length := Nat.div_lt_of_lt_mul (by rw [Nat.mul_comm]; exact hi)
  have hm : i % sz < sz := Nat.mod_lt _ hsz
  have hx : xs[i / sz]? = some xs[i / sz] := List.getElem?_eq_getElem hd
  have hv : (enc xs[i / sz])[i % sz]? = some ((enc xs[i / sz])[i % sz]'(by rw [hl]; exact hm)) := List.getElem?_eq_getElem _
  refine ⟨_, hx, ?_⟩
  have := flatMap_get hl xs (i / sz) _ (i % sz) _ hx hv
  rw [mod_split hsz, h] at this
  rw [hv, ← this]

theorem run_appendR {P : Program} {α : Type} {enc : α → List Value} {sz : Nat} {w : World} (t ty e : TypeId) (z : Value) (bytes : Nat) (ht : P.underlying t = some (.slice e)) (hinfo : (P.info? e).map (fun i => (i.zero, i.size, i.bytes)) = some (some z, sz, bytes))
    (hzs : z.cells.size = sz) (hsz : 0 < sz) (henc : ∀ x, (enc x).length = sz) (h1 : ∀ x, ∀ u ∈ enc x, u.oneCell' = true) (base : Nat) (v : Value) (xs ys : List α) (hown : OwnF enc sz e base w v xs)
    (A : Option Addr) (c : Nat) (hr : Rd (Kd.flat sz enc henc) w A ys) (hlen : xs.length + ys.length ≤ 1000000000) (hbytes : bytes ≤ 10000) (hbase : base ≤ w.heap.size) :
    ∃ A' c' w', (Builtin.append_ #[t, t] ty #[v, .slice A ys.length c]).run P w = .ok (.slice A' (xs.length + ys.length) c') w' ∧ OwnF enc sz e base w' (.slice A' (xs.length + ys.length) c') (xs ++ ys) ∧ w.grownBy w' v.ownBlock ∧ ((Value.slice A' (xs.length + ys.length) c').ownBlock = v.ownBlock ∨ (Value.slice A' (xs.length + ys.length) c').ownBlock = some w.heap.size) := by
  obtain ⟨i0, hi, hz0, hz1, hz2⟩ := info_parts hinfo
  have hb2 : (xs.length + ys.length) * bytes ≤ 1000000000 * 10000 := Nat.mul_le_mul hlen hbytes
  suffices hs : ∃ v' w', (Builtin.append_ #[t, t] ty #[v, .slice A ys.length c]).run P w = .ok v' w' ∧ w'.ownsRow base e sz v' (xs.length + ys.length) (xs.flatMap enc ++ ys.flatMap enc) ∧ w.grownBy w' v.ownBlock ∧ (v'.ownBlock = v.ownBlock ∨ v'.ownBlock = some w.heap.size) by
    obtain ⟨v', w', hrun, h2, h3, h5⟩ := hs
    have ho' : OwnF enc sz e base w' v' (xs ++ ys) := by unfold OwnF; rw [List.length_append, List.flatMap_append]; exact h2
    obtain ⟨A', c', hv, _⟩ := ho'.rd henc
    rw [List.length_append] at hv
    subst hv
    exact ⟨A', c', w', hrun, ho', h3, h5⟩
  have own : ∀ ad : Addr, (∀ j u, (ys.flatMap enc)[j]? = some u → w.cell? (ad.add j) = some u) → ∃ v' w', (Builtin.append_ #[t, t] ty #[v, .slice (some ad) ys.length c]).run P w = .ok v' w' ∧ w'.ownsRow base e sz v' (xs.length + ys.length) (xs.flatMap enc ++ ys.flatMap enc) ∧ w.grownBy w' v.ownBlock ∧ (v'.ownBlock = v.ownBlock ∨ v'.ownBlock = some w.heap.size) := fun ad had => by
    obtain ⟨v', w', hrun, h2, h3, _, h5⟩ := run_append_own_at (P := P) w base t ty e i0 z sz bytes ht hi hz0 hz1 hz2 hzs hsz v xs.length _ hown ad ys.length c (ys.flatMap enc) (flatMap_len henc ys) had
      (fun u hu => by obtain ⟨y, _, hy⟩ := List.mem_flatMap.1 hu; exact h1 y u hy) (by unfold maxLen; omega) (by omega) hbase
    exact ⟨v', w', hrun, h2, h3, h5⟩
  cases ys with
  | cons y ys =>
    obtain ⟨b, off, hA, hc⟩ := hr.2 (by simp)
    subst hA
    refine own ⟨b, off, none⟩ fun j u hj => ?_
    obtain ⟨x, hx, hv⟩ := flatMap_at henc hsz hj
    obtain ⟨cs, hK, hcell⟩ := hc _ x hx
    have hK : cs = enc x := hK
    subst hK
    have := hcell _ _ hv
    have e2 : off + j / sz * (Kd.flat sz enc henc).sz + j % sz = off + j := by
      have := mod_split (i := j) hsz
      show off + j / sz * sz + j % sz = off + j
      omega
    rw [e2] at this
    rw [Go.WideShapes.add_plain]
    exact this
  | nil =>
    cases A with
    | some ad => exact own ad (fun j u hj => by simp at hj)
    | none =>
      refine ⟨v, w, ?_, by simpa [OwnF] using hown, World.grownBy.refl _ _, .inl rfl⟩
      rcases hown.2 with ⟨rfl, h0⟩ | ⟨g, cap, cur, rfl, _, _, hnc, _⟩
      · simp [Builtin.append_, run_underlying ht, sizeOf, typeInfo, hi, Builtin.lenOf, Builtin.firstCells]
      · simp [Builtin.append_, run_underlying ht, sizeOf, typeInfo, hi, Builtin.lenOf, Builtin.firstCells, hnc, storeCells]

/-- The same, as one operation. -/
theorem exec_appendR {P : Program} {α : Type} {enc : α → List Value} {sz : Nat} {w : World} {o : Oper} {a : Act} (s x : Operand) (t e : TypeId) (ho : o.op = .call { callee := .builtin .append, args := #[s, x], argTypes := #[t, t] })
    (z : Value) (bytes : Nat) (ht : P.underlying t = some (.slice e)) (hinfo : (P.info? e).map (fun i => (i.zero, i.size, i.bytes)) = some (some z, sz, bytes))
    (hzs : z.cells.size = sz) (hsz : 0 < sz) (henc : ∀ x, (enc x).length = sz) (h1 : ∀ x, ∀ u ∈ enc x, u.oneCell' = true) (base : Nat) (v : Value) (xs ys : List α) (hs : a.eval s = v) (hown : OwnF enc sz e base w v xs)
    (A : Option Addr) (c : Nat) (hx : a.eval x = .slice A ys.length c) (hr : Rd (Kd.flat sz enc henc) w A ys) (hlen : xs.length + ys.length ≤ 1000000000) (hbytes : bytes ≤ 10000) (hbase : base ≤ w.heap.size) :
    ∃ A' c' w', (execOp a.eval o).run P w = .ok (.value (.slice A' (xs.length + ys.length) c')) w' ∧ OwnF enc sz e base w' (.slice A' (xs.length + ys.length) c') (xs ++ ys) ∧ w.grownBy w' v.ownBlock ∧ ((Value.slice A' (xs.length + ys.length) c').ownBlock = v.ownBlock ∨ (Value.slice A' (xs.length + ys.length) c').ownBlock = some w.heap.size) := by
  obtain ⟨A', c', w', hrun, h2, h3, h4⟩ := run_appendR (P := P) t o.type e z bytes ht hinfo hzs hsz henc h1 base v xs ys hown A c hr hlen hbytes hbase
  refine ⟨A', c', w', ?_, h2, h3, h4⟩
  unfold execOp
  simp only [ho, resolve, invoke, builtin, Sem.run_bind, Sem.run_pure, Result.andThen_ok, List.map_toArray, List.map_cons, List.map_nil, hs, hx, hrun]
/-- The same, in a plain region. -/
theorem wpList_appendR {P : Program} {ops : Array Oper} {rest : List Oper} {Q : Exit → Act → World → Prop} {α : Type} {enc : α → List Value} {sz : Nat} {w : World} {o : Oper} {a : Act} (hgd : o.guard = none) (s x : Operand) (t e : TypeId) (ho : o.op = .call { callee := .builtin .append, args := #[s, x], argTypes := #[t, t] })
    (z : Value) (bytes : Nat) (ht : P.underlying t = some (.slice e)) (hinfo : (P.info? e).map (fun i => (i.zero, i.size, i.bytes)) = some (some z, sz, bytes))
    (hzs : z.cells.size = sz) (hsz : 0 < sz) (henc : ∀ x, (enc x).length = sz) (h1 : ∀ x, ∀ u ∈ enc x, u.oneCell' = true) (base : Nat) (v : Value) (xs ys : List α) (hs : a.eval s = v) (hown : OwnF enc sz e base w v xs)
    (A : Option Addr) (c : Nat) (hx : a.eval x = .slice A ys.length c) (hr : Rd (Kd.flat sz enc henc) w A ys) (hlen : xs.length + ys.length ≤ 1000000000) (hbytes : bytes ≤ 10000) (hbase : base ≤ w.heap.size)
    (h : ∀ A' c' w', OwnF enc sz e base w' (.slice A' (xs.length + ys.length) c') (xs ++ ys) → w.grownBy w' v.ownBlock → ((Value.slice A' (xs.length + ys.length) c').ownBlock = v.ownBlock ∨ (Value.slice A' (xs.length + ys.length) c').ownBlock = some w.heap.size) → wpList P ops Q rest (a.put o.dst (.slice A' (xs.length + ys.length) c')) w') : wpList P ops Q (o :: rest) a w := by
  refine wpList_plain hgd fun K hK => ?_
  obtain ⟨A', c', w', hrun, h2, h3, h4⟩ := exec_appendR (P := P) (a := a) s x t e ho z bytes ht hinfo hzs hsz henc h1 base v xs ys hs hown A c hx hr hlen hbytes hbase
  unfold Oper.wp
  rw [hrun]
  exact hK _ _ (h A' c' w' h2 h3 h4)
/-- The same, in a drawn region walked by an invariant. -/
theorem wpOp_appendR {P : Program} {ops : Array Oper} {Q : Exit → Act → World → Prop} {i : Nat} {K : Act → World → Prop} {α : Type} {enc : α → List Value} {sz : Nat} {w : World} {o : Oper} {a : Act} (hi : ops[i]? = some o) (hw : Region.wanted o (yielded ops a.tmps) = true) (s x : Operand) (t e : TypeId) (ho : o.op = .call { callee := .builtin .append, args := #[s, x], argTypes := #[t, t] })
    (z : Value) (bytes : Nat) (ht : P.underlying t = some (.slice e)) (hinfo : (P.info? e).map (fun i => (i.zero, i.size, i.bytes)) = some (some z, sz, bytes))
    (hzs : z.cells.size = sz) (hsz : 0 < sz) (henc : ∀ x, (enc x).length = sz) (h1 : ∀ x, ∀ u ∈ enc x, u.oneCell' = true) (base : Nat) (v : Value) (xs ys : List α) (hs : a.eval s = v) (hown : OwnF enc sz e base w v xs)
    (A : Option Addr) (c : Nat) (hx : a.eval x = .slice A ys.length c) (hr : Rd (Kd.flat sz enc henc) w A ys) (hlen : xs.length + ys.length ≤ 1000000000) (hbytes : bytes ≤ 10000) (hbase : base ≤ w.heap.size)
    (h : ∀ A' c' w', OwnF enc sz e base w' (.slice A' (xs.length + ys.length) c') (xs ++ ys) → w.grownBy w' v.ownBlock → ((Value.slice A' (xs.length + ys.length) c').ownBlock = v.ownBlock ∨ (Value.slice A' (xs.length + ys.length) c').ownBlock = some w.heap.size) → K (a.put o.dst (.slice A' (xs.length + ys.length) c')) w') : wpOp P ops Q i K a w := by
  obtain ⟨A', c', w', hrun, h2, h3, h4⟩ := exec_appendR (P := P) (a := a) s x t e ho z bytes ht hinfo hzs hsz henc h1 base v xs ys hs hown A c hx hr hlen hbytes hbase
  exact wpOp_yield hi hw hrun (h A' c' w' h2 h3 h4)
end Go.Proofs.YtaiibchadlaifaaGreatDoor

namespace Go.Proofs.YtaiibchadlaifaaGreatDoor
open Go.RowKit Go.Shelf

structure More8 (B0 : Nat) (W0 : World) (pv mv lv : Value) (l : List Att) (x : Att) (E : Int) (Ry : Int → Prop) (L : Nat → Bool) (v9 v10 v30 v31 v32 v33 v34 v35 v36 v37 v38 v39 v40 : Value) (w : World) : Prop where
  below : Below B0 W0 w
  le : B0 ≤ W0.heap.size
  o6 : L 6 = true → L 3 = true
  o12 : L 12 = true → L 11 = true
  h0 : L 0 = true → v31 = pv
  h2 : L 2 = true → v33 = lv
  h4 : L 4 = true → v35 = mv
  h1 : L 1 = true → L 3 = false → OwnF Att.enc 5 28 B0 w v32 []
  h3 : L 3 = true → L 6 = false → OwnF Att.enc 5 28 B0 w v34 l
  h5 : L 5 = true → L 6 = false → ∃ B, v36 = .slice (some ⟨B, 0, none⟩) 1 1 ∧ B0 ≤ B ∧ w.heap[B]? = some (.cells (Att.enc x).toArray 28 (0, 0))
  a5 : L 5 = true → L 1 = true → L 3 = false → ∀ k, v32.ownBlock = some k → v36.ownBlock ≠ some k
  b5 : L 5 = true → L 3 = true → L 6 = false → ∀ k, v34.ownBlock = some k → v36.ownBlock ≠ some k
  h6 : L 6 = true → ∃ A c, v37 = .slice A (l.length + 1) c ∧ OwnF Att.enc 5 28 B0 w v37 (l ++ [x])
  h7 : L 7 = true → ∃ AU nU cU AC nC cC y, v38 = .tuple #[.agg #[.slice AU nU cU, .int .i64 y, .slice AC nC cC], .int .i64 E] ∧ Ry y
  h8 : L 8 = true → ∃ AU nU cU AC nC cC y, v30 = .tuple #[.agg #[.slice AU nU cU, .int .i64 y, .slice AC nC cC], .int .i64 E] ∧ Ry y
  h9 : L 9 = true → ∃ AU nU cU AC nC cC y, v39 = .agg #[.slice AU nU cU, .int .i64 y, .slice AC nC cC] ∧ Ry y
  h10 : L 10 = true → v40 = .int .i64 E
  h11 : L 11 = true → ∃ g u0 u1 u2, v9 = .pointer (some ⟨g, 0, none⟩) ∧ B0 ≤ g ∧ w.heap[g]? = some (.cells #[u0, u1, u2] 45 (0, 0))
  h12 : L 12 = true → ∃ g AU nU cU AC nC cC y, v9 = .pointer (some ⟨g, 0, none⟩) ∧ B0 ≤ g ∧ w.heap[g]? = some (.cells #[.slice AU nU cU, .int .i64 y, .slice AC nC cC] 45 (0, 0)) ∧ Ry y
  h13 : L 13 = true → v10 = .int .i64 E

theorem rd_one {w : World} {B : Nat} {x : Att} {T : TypeId} {f : Nat × Nat} (h : w.heap[B]? = some (.cells (Att.enc x).toArray T f)) : Rd kAtt w (some ⟨B, 0, none⟩) [x] :=
  ⟨by simp, fun _ => ⟨B, 0, rfl, fun i y hy => by
    cases i with
    | succ i => simp at hy
    | zero =>
      obtain rfl : x = y := by simpa using hy
      refine ⟨Att.enc x, rfl, fun j v hj => ?_⟩
      rw [blk_cell h]
      simpa using hj⟩⟩
/-- The world grows by blocks of its own alone. -/
theorem More8.grow {B0 : Nat} {W0 : World} {pv mv lv : Value} {l : List Att} {x : Att} {E : Int} {Ry : Int → Prop} {L : Nat → Bool} {v9 v10 v30 v31 v32 v33 v34 v35 v36 v37 v38 v39 v40 : Value} {w w' : World}
    (h : More8 B0 W0 pv mv lv l x E Ry L v9 v10 v30 v31 v32 v33 v34 v35 v36 v37 v38 v39 v40 w) (hb : Below w.heap.size w w') : More8 B0 W0 pv mv lv l x E Ry L v9 v10 v30 v31 v32 v33 v34 v35 v36 v37 v38 v39 v40 w' :=
  { h with
    below := h.below.trans (hb.mono (Nat.le_trans h.le h.below.size))
    h1 := fun a b => (h.h1 a b).below hb
    h3 := fun a b => (h.h3 a b).below hb
    h5 := fun a b => by obtain ⟨B, e, hB, hh⟩ := h.h5 a b; exact ⟨B, e, hB, (hb.block _ (Array.getElem?_eq_some_iff.1 hh).1).trans hh⟩
    h6 := fun a => by obtain ⟨A, c, e, hh⟩ := h.h6 a; exact ⟨A, c, e, hh.below hb⟩
    h11 := fun a => by obtain ⟨g, u0, u1, u2, e, hB, hh⟩ := h.h11 a; exact ⟨g, u0, u1, u2, e, hB, (hb.block _ (Array.getElem?_eq_some_iff.1 hh).1).trans hh⟩
    h12 := fun a => by obtain ⟨g, AU, nU, cU, AC, nC, cC, y, e, hB, hh, hy⟩ := h.h12 a; exact ⟨g, AU, nU, cU, AC, nC, cC, y, e, hB, (hb.block _ (Array.getElem?_eq_some_iff.1 hh).1).trans hh, hy⟩ }
theorem own_ne {w : World} {base : Nat} {v : Value} {xs : List Att} {k g : Nat} {cs : Array Value} {f : Nat × Nat} (h : OwnF Att.enc 5 28 base w v xs) (hk : v.ownBlock = some k) (hg : w.heap[g]? = some (.cells cs 45 f)) : g ≠ k := by
  rintro rfl
  obtain ⟨_, cur, f', hh⟩ := h.row g hk
  rw [hg] at hh
  simp at hh

section
variable {B0 : Nat} {W0 : World} {pv mv lv : Value} {l : List Att} {x : Att} {E : Int} {Ry : Int → Prop} {L : Nat → Bool} {v9 v10 v30 v31 v32 v33 v34 v35 v36 v37 v38 v39 v40 : Value} {w w' : World}
def at' (i : Nat) (L : Nat → Bool) : Nat → Bool := fun j => decide (j = i) || L j
theorem More8.size (h : More8 B0 W0 pv mv lv l x E Ry L v9 v10 v30 v31 v32 v33 v34 v35 v36 v37 v38 v39 v40 w) : B0 ≤ w.heap.size := Nat.le_trans h.le h.below.size
theorem More8.s1 (h : More8 B0 W0 pv mv lv l x E Ry L v9 v10 v30 v31 v32 v33 v34 v35 v36 v37 v38 v39 v40 w) (h1 : L 1 = false) :
    More8 B0 W0 pv mv lv l x E Ry (at' 1 L) v9 v10 v30 v31 (.slice (some ⟨w.heap.size, 0, none⟩) 0 0) v33 v34 v35 v36 v37 v38 v39 v40 (w.alloc (.cells #[] 28)) := by
  have hs := h.size
  have hg := h.grow (below1 w (.cells #[] 28))
  refine { hg with h1 := fun _ _ => ?_, a5 := fun h5 _ h3 k hk => ?_ }
  · exact ⟨rfl, .inr ⟨_, 0, #[], rfl, hs, World.alloc_heap_new _ _, Nat.le_refl _, by simp [maxLen], rfl, rfl⟩⟩
  · obtain ⟨B, rfl, _, hB⟩ := h.h5 h5 (by cases e : L 6; rfl; have := h.o6 e; rw [show L 3 = false from h3] at this; cases this)
    have := (Array.getElem?_eq_some_iff.1 hB).1
    simp [Value.ownBlock] at hk ⊢
    omega
theorem More8.s3 (h : More8 B0 W0 pv mv lv l x E Ry L v9 v10 v30 v31 v32 v33 v34 v35 v36 v37 v38 v39 v40 w) (h1 : L 1 = true) (h3 : L 3 = false) {u : Value} (hg : w.grownBy w' v32.ownBlock) (ho : OwnF Att.enc 5 28 B0 w' u l) (hk : u.ownBlock = v32.ownBlock ∨ u.ownBlock = some w.heap.size) :
    More8 B0 W0 pv mv lv l x E Ry (at' 3 L) v9 v10 v30 v31 v32 v33 u v35 v36 v37 v38 v39 v40 w' := by
  have hs := h.size
  have h6 : L 6 = false := by cases e : L 6; rfl; have := h.o6 e; rw [h3] at this; cases this
  have hw := h.h1 h1 h3
  have hkeep : ∀ b o, w.heap[b]? = some o → (∀ k, v32.ownBlock = some k → b ≠ k) → w'.heap[b]? = some o := fun b o hb hn => (hg.block b (Array.getElem?_eq_some_iff.1 hb).1 (fun e => hn b e.symm rfl)).trans hb
  refine { h with below := h.below.grown hg hs (fun k e => (hw.row k e).1), o6 := fun _ => rfl, h1 := fun _ e => absurd e (by simp [at']), h3 := fun _ _ => ho, h5 := fun a b => ?_, a5 := fun _ _ e => absurd e (by simp [at']), b5 := fun a _ _ k e => ?_, h6 := fun a => ?_, h11 := fun a => ?_, h12 := fun a => ?_ }
  · obtain ⟨B, e, hB, hh⟩ := h.h5 a b
    exact ⟨B, e, hB, hkeep _ _ hh (fun k hk2 e2 => h.a5 a h1 h3 k hk2 (by rw [e]; simp [Value.ownBlock]; exact e2))⟩
  · obtain ⟨B, rfl, hB, hh⟩ := h.h5 a h6
    rcases hk with hk | hk
    · exact h.a5 a h1 h3 k (hk.symm.trans e)
    · have := (Array.getElem?_eq_some_iff.1 hh).1
      rw [hk] at e
      simp [Value.ownBlock] at e ⊢
      omega
  · rw [show L 6 = true from a] at h6; cases h6
  · obtain ⟨g, u0, u1, u2, e, hB, hh⟩ := h.h11 a
    exact ⟨g, u0, u1, u2, e, hB, hkeep _ _ hh (fun k hk2 => own_ne hw hk2 hh)⟩
  · obtain ⟨g, AU, nU, cU, AC, nC, cC, y, e, hB, hh, hy⟩ := h.h12 a
    exact ⟨g, AU, nU, cU, AC, nC, cC, y, e, hB, hkeep _ _ hh (fun k hk2 => own_ne hw hk2 hh), hy⟩
theorem More8.s5 (h : More8 B0 W0 pv mv lv l x E Ry L v9 v10 v30 v31 v32 v33 v34 v35 v36 v37 v38 v39 v40 w) (h5 : L 5 = false) :
    More8 B0 W0 pv mv lv l x E Ry (at' 5 L) v9 v10 v30 v31 v32 v33 v34 v35 (.slice (some ⟨w.heap.size, 0, none⟩) 1 1) v37 v38 v39 v40 (w.alloc (.cells (Att.enc x).toArray 28)) := by
  have hs := h.size
  have hg := h.grow (below1 w (.cells (Att.enc x).toArray 28))
  refine { hg with h5 := fun _ _ => ⟨_, rfl, hs, World.alloc_heap_new _ _⟩, a5 := fun _ a b k hk => ?_, b5 := fun _ a b k hk => ?_ }
  · obtain ⟨_, cur, f, hh⟩ := (h.h1 a b).row k hk
    have := (Array.getElem?_eq_some_iff.1 hh).1
    simp [Value.ownBlock]; omega
  · obtain ⟨_, cur, f, hh⟩ := (h.h3 a b).row k hk
    have := (Array.getElem?_eq_some_iff.1 hh).1
    simp [Value.ownBlock]; omega
theorem More8.s6 (h : More8 B0 W0 pv mv lv l x E Ry L v9 v10 v30 v31 v32 v33 v34 v35 v36 v37 v38 v39 v40 w) (h3 : L 3 = true) (h6 : L 6 = false) {A : Option Addr} {c : Nat} (hg : w.grownBy w' v34.ownBlock) (ho : OwnF Att.enc 5 28 B0 w' (.slice A (l.length + 1) c) (l ++ [x])) :
    More8 B0 W0 pv mv lv l x E Ry (at' 6 L) v9 v10 v30 v31 v32 v33 v34 v35 v36 (.slice A (l.length + 1) c) v38 v39 v40 w' := by
  have hs := h.size
  have hw := h.h3 h3 h6
  have hkeep : ∀ b o, w.heap[b]? = some o → (∀ k, v34.ownBlock = some k → b ≠ k) → w'.heap[b]? = some o := fun b o hb hn => (hg.block b (Array.getElem?_eq_some_iff.1 hb).1 (fun e => hn b e.symm rfl)).trans hb
  refine { h with below := h.below.grown hg hs (fun k e => (hw.row k e).1), o6 := fun _ => h3, h1 := fun _ e => absurd h3 (by rw [show L 3 = false from e]; simp), h3 := fun _ e => absurd e (by simp [at']), h5 := fun _ e => absurd e (by simp [at']), b5 := fun _ _ e => absurd e (by simp [at']), h6 := fun _ => ⟨A, c, rfl, ho⟩, h11 := fun a => ?_, h12 := fun a => ?_ }
  · obtain ⟨g, u0, u1, u2, e, hB, hh⟩ := h.h11 a
    exact ⟨g, u0, u1, u2, e, hB, hkeep _ _ hh (fun k hk2 => own_ne hw hk2 hh)⟩
  · obtain ⟨g, AU, nU, cU, AC, nC, cC, y, e, hB, hh, hy⟩ := h.h12 a
    exact ⟨g, AU, nU, cU, AC, nC, cC, y, e, hB, hkeep _ _ hh (fun k hk2 => own_ne hw hk2 hh), hy⟩
theorem More8.s7 (h : More8 B0 W0 pv mv lv l x E Ry L v9 v10 v30 v31 v32 v33 v34 v35 v36 v37 v38 v39 v40 w) (hb : Below w.heap.size w w') {u : Value} (hu : ∃ AU nU cU AC nC cC y, u = .tuple #[.agg #[.slice AU nU cU, .int .i64 y, .slice AC nC cC], .int .i64 E] ∧ Ry y) :
    More8 B0 W0 pv mv lv l x E Ry (at' 7 L) v9 v10 v30 v31 v32 v33 v34 v35 v36 v37 u v39 v40 w' := by
  have hg := h.grow hb
  exact { hg with h7 := fun _ => hu }
theorem More8.s11 (h : More8 B0 W0 pv mv lv l x E Ry L v9 v10 v30 v31 v32 v33 v34 v35 v36 v37 v38 v39 v40 w) (h11 : L 11 = false) (u0 u1 u2 : Value) :
    More8 B0 W0 pv mv lv l x E Ry (at' 11 L) (.pointer (some ⟨w.heap.size, 0, none⟩)) v10 v30 v31 v32 v33 v34 v35 v36 v37 v38 v39 v40 (w.alloc (.cells #[u0, u1, u2] 45)) := by
  have hs := h.size
  have hg := h.grow (below1 w (.cells #[u0, u1, u2] 45))
  refine { hg with o12 := fun _ => rfl, h11 := fun _ => ⟨_, u0, u1, u2, rfl, hs, World.alloc_heap_new _ _⟩, h12 := fun a => ?_ }
  have := h.o12 a
  rw [h11] at this; cases this
theorem More8.s12 (h : More8 B0 W0 pv mv lv l x E Ry L v9 v10 v30 v31 v32 v33 v34 v35 v36 v37 v38 v39 v40 w) (h11 : L 11 = true) {g : Nat} (h9 : v9 = .pointer (some ⟨g, 0, none⟩)) (hB : B0 ≤ g) {AU AC : Option Addr} {nU cU nC cC : Nat} {y : Int} (hy : Ry y)
    {u : Array Value} (h0 : w.heap[g]? = some (.cells u 45 (0, 0))) (h1 : w'.heap[g]? = some (.cells #[.slice AU nU cU, .int .i64 y, .slice AC nC cC] 45 (0, 0))) (hk : ∀ k, k ≠ g → w'.heap[k]? = w.heap[k]?) (hos : w'.os = w.os) (htape : w'.tape = w.tape) (hout : w'.output = w.output) (hsz : w'.heap.size = w.heap.size) :
    More8 B0 W0 pv mv lv l x E Ry (at' 12 L) v9 v10 v30 v31 v32 v33 v34 v35 v36 v37 v38 v39 v40 w' := by
  have hs := h.size
  have hown : ∀ {v : Value} {xs : List Att}, OwnF Att.enc 5 28 B0 w v xs → OwnF Att.enc 5 28 B0 w' v xs := fun ho => ho.kept fun b cur f _ hb => (hk b (by rintro rfl; rw [h0] at hb; simp at hb)).trans hb
  refine { h with below := h.below.trans ⟨hos, htape, hout, by omega, fun k hk2 => hk k (by omega)⟩, o12 := fun _ => h11, h1 := fun a b => hown (h.h1 a b), h3 := fun a b => hown (h.h3 a b), h5 := fun a b => ?_, h6 := fun a => ?_, h11 := fun _ => ⟨g, _, _, _, h9, hB, h1⟩, h12 := fun _ => ⟨g, AU, nU, cU, AC, nC, cC, y, h9, hB, h1, hy⟩ }
  · obtain ⟨B, e, hB2, hh⟩ := h.h5 a b
    exact ⟨B, e, hB2, (hk B (by rintro rfl; rw [h0] at hh; simp at hh)).trans hh⟩
  · obtain ⟨A, c, e, hh⟩ := h.h6 a
    exact ⟨A, c, e, hown hh⟩
end
end Go.Proofs.YtaiibchadlaifaaGreatDoor
