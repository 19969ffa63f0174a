/-
  Flows and cuts, in plain Lean: no program in sight. Conditions: none.
  The flow of an audit: its value is what the uses count, in plain Lean. Conditions: none.
  flow.Check and check: what they return. Conditions: the edges read as data.
  flow.check: what it returns. Conditions: the edges read as data.
  Searching a residual network, augmenting along a path: plain Lean, no program in sight. Conditions: none.
  flow's network: capacity, end, push. Conditions: the network lies as FNet says.
  A region that draws its order, its head walked in an order of one's own: reads first, then what makes memory and keeps S, then a tail in one order. Conditions: none.
  flow's network in memory with its rows of residual edges; usable, an iterator over a node's residual edges. Conditions: the network lies as Net says.
  flow.newNetwork: the rows of residual edges while they grow. Conditions: the edges read as data, their nodes in range.
  A queue of numbers: a row of the call's own, cut at its head, appended to. slices.Repeat at one number. Conditions: none.
  flow.newNetwork. Conditions: the edges read as data, their nodes in range.
-/
import Derived.Laws.EntriesVeiled
import Derived.Deep.OwnRows
import Derived.Laws.CopyOwn
import Derived.ArgAppend
import Derived.Deep.DeepCutAuto
import Derived.Test.YtaiibchadlaifaaGreatDoorZb
set_option linter.unusedVariables false
set_option linter.unusedSimpArgs false

namespace Go.Proofs.YtaiibchadlaifaaGreatDoor

def sumN : Nat → (Int → Int) → Int
  | 0, _ => 0
  | n + 1, g => sumN n g + g n
theorem sumN_add (n : Nat) (g h : Int → Int) : sumN n (fun v => g v + h v) = sumN n g + sumN n h := by
  induction n with
  | zero => rfl
  | succ n ih => simp only [sumN, ih]; omega
theorem sumN_neg (n : Nat) (g : Int → Int) : sumN n (fun v => - g v) = - sumN n g := by
  induction n with
  | zero => rfl
  | succ n ih => simp only [sumN, ih]; omega
theorem sumN_congr {n : Nat} {g h : Int → Int} (hh : ∀ v : Nat, v < n → g v = h v) : sumN n g = sumN n h := by
  induction n with
  | zero => rfl
  | succ n ih => simp only [sumN]; rw [ih (fun v hv => hh v (by omega)), hh n (by omega)]
theorem sumN_zero (n : Nat) : sumN n (fun _ => 0) = 0 := by
  induction n with
  | zero => rfl
  | succ n ih => simp only [sumN, ih]; rfl
theorem sumN_point (n : Nat) (a x : Int) (h0 : 0 ≤ a) (h1 : a < n) : sumN n (fun v => if v = a then x else 0) = x := by
  induction n with
  | zero => omega
  | succ n ih =>
    simp only [sumN]
    by_cases h : a = n
    · subst h
      have : sumN n (fun v => if v = (n : Int) then x else 0) = sumN n (fun _ => 0) := sumN_congr fun v hv => by simp; omega
      rw [this, sumN_zero]; simp
    · rw [ih (by omega), if_neg (by omega)]; omega

/-- Net flow out of a node. -/
def outF : List Edge → List Int → Int → Int
  | e :: l, x :: F, v => ((if v = e.f then x else 0) + -(if v = e.t then x else 0)) + outF l F v
  | _, _, _ => 0
/-- A flow within the capacities. -/
def okF : List Edge → List Int → Prop
  | [], [] => True
  | e :: l, x :: F => 0 ≤ x ∧ x ≤ e.m ∧ okF l F
  | _, _ => False
/-- What crosses out of a set, less what crosses into it. -/
def crossF (C : Int → Bool) : List Edge → List Int → Int
  | e :: l, x :: F => ((if C e.f then x else 0) + -(if C e.t then x else 0)) + crossF C l F
  | _, _ => 0
def capC (C : Int → Bool) : List Edge → Int
  | e :: l => (if C e.f && !C e.t then e.m else 0) + capC C l
  | [] => 0
/-- No edge of the residual network leaves the set. -/
def closedR (C : Int → Bool) : List Edge → List Int → Prop
  | e :: l, x :: F => (C e.f = true → x < e.m → C e.t = true) ∧ (C e.t = true → 0 < x → C e.f = true) ∧ closedR C l F
  | _, _ => True
def nodesIn (n : Nat) (l : List Edge) : Prop := ∀ e, e ∈ l → 0 ≤ e.f ∧ e.f < n ∧ 0 ≤ e.t ∧ e.t < n

theorem sum_out (n : Nat) (C : Int → Bool) : ∀ (l : List Edge) (F : List Int), nodesIn n l → sumN n (fun v => if C v then outF l F v else 0) = crossF C l F
  | [], F, _ => by
    have : ∀ v, outF [] F v = 0 := fun v => by cases F <;> rfl
    simp only [this]; rw [show crossF C [] F = 0 by cases F <;> rfl]
    rw [show (fun v => if C v = true then (0 : Int) else 0) = fun _ => 0 from funext fun v => by split <;> rfl, sumN_zero]
  | e :: l, [], _ => by
    simp only [outF, crossF]
    rw [show (fun v => if C v = true then (0 : Int) else 0) = fun _ => 0 from funext fun v => by split <;> rfl, sumN_zero]
  | e :: l, x :: F, h => by
    have he := h e (by simp)
    have ih := sum_out n C l F (fun e he => h e (by simp [he]))
    simp only [crossF]
    rw [← ih]
    have h1 : sumN n (fun v => if v = e.f then (if C e.f then x else 0) else 0) = if C e.f then x else 0 := sumN_point n _ _ he.1 he.2.1
    have h2 : sumN n (fun v => if v = e.t then (if C e.t then x else 0) else 0) = if C e.t then x else 0 := sumN_point n _ _ he.2.2.1 he.2.2.2
    have h2' := sumN_neg n (fun v => if v = e.t then (if C e.t then x else 0) else 0)
    rw [h2] at h2'
    have h3 := sumN_add n (fun v => if v = e.f then (if C e.f then x else 0) else 0) (fun v => -(if v = e.t then (if C e.t then x else 0) else 0))
    rw [h1, h2'] at h3
    rw [← h3, ← sumN_add]
    refine sumN_congr fun v _ => ?_
    simp only [outF]
    by_cases a : (v : Int) = e.f <;> by_cases b : (v : Int) = e.t <;> cases c : C v <;> simp_all

/-- Conservation at all nodes but two. -/
def conserve (n : Nat) (s t : Int) (l : List Edge) (F : List Int) : Prop := ∀ v : Nat, v < n → (v : Int) ≠ s → (v : Int) ≠ t → outF l F v = 0

theorem value_cross {n : Nat} {s t : Int} {l : List Edge} {F : List Int} {C : Int → Bool} (hn : nodesIn n l) (hc : conserve n s t l F) (h0 : 0 ≤ s) (h1 : s < n) (hs : C s = true) (ht : C t = false) :
    outF l F s = crossF C l F := by
  rw [← sum_out n C l F hn, ← sumN_point n s (outF l F s) h0 h1]
  refine sumN_congr fun v hv => ?_
  by_cases a : (v : Int) = s
  · rw [if_pos a, a, hs]; rfl
  · rw [if_neg a]
    by_cases b : (v : Int) = t
    · rw [b, ht]; rfl
    · rw [hc v hv a b]; split <;> rfl

theorem cross_le {C : Int → Bool} : ∀ {l : List Edge} {F : List Int}, okF l F → crossF C l F ≤ capC C l
  | [], [], _ => by simp [crossF, capC]
  | e :: l, x :: F, h => by
    obtain ⟨h0, h1, h2⟩ := h
    have ih := cross_le (C := C) h2
    simp only [crossF, capC]
    cases a : C e.f <;> cases b : C e.t <;> simp <;> omega
theorem cross_closed {C : Int → Bool} : ∀ {l : List Edge} {F : List Int}, okF l F → closedR C l F → crossF C l F = capC C l
  | [], [], _, _ => by simp [crossF, capC]
  | e :: l, x :: F, h, hc => by
    obtain ⟨h0, h1, h2⟩ := h
    obtain ⟨c1, c2, c3⟩ := hc
    have ih := cross_closed h2 c3
    simp only [crossF, capC, ih]
    cases a : C e.f <;> cases b : C e.t <;> simp [a, b] at c1 c2 ⊢ <;> omega
theorem closed_cross {C : Int → Bool} : ∀ {l : List Edge} {F : List Int}, okF l F → crossF C l F = capC C l → closedR C l F
  | [], [], _, _ => by simp [closedR]
  | e :: l, x :: F, h, hc => by
    obtain ⟨h0, h1, h2⟩ := h
    have ih := cross_le (C := C) h2
    simp only [crossF, capC] at hc
    refine ⟨?_, ?_, closed_cross h2 ?_⟩ <;> cases a : C e.f <;> cases b : C e.t <;> simp [a, b] at hc ⊢ <;> omega

/-- What Max promises: a flow, and the nodes that its residual network reaches from s, among which t is not. -/
structure MaxSpec (n : Nat) (s t : Int) (l : List Edge) (F : List Int) (C : Int → Bool) : Prop where
  ok : okF l F
  cons : conserve n s t l F
  hs : C s = true
  ht : C t = false
  closed : closedR C l F
  least : ∀ C' : Int → Bool, C' s = true → closedR C' l F → ∀ v, C v = true → C' v = true

theorem MaxSpec.value {n : Nat} {s t : Int} {l : List Edge} {F : List Int} {C : Int → Bool} (h : MaxSpec n s t l F C) (hn : nodesIn n l) (h0 : 0 ≤ s) (h1 : s < n) : outF l F s = capC C l := by
  rw [value_cross hn h.cons h0 h1 h.hs h.ht, cross_closed h.ok h.closed]
/-- Any flow's value is at most any cut's capacity. -/
theorem weak {n : Nat} {s t : Int} {l : List Edge} {F : List Int} {C : Int → Bool} (hn : nodesIn n l) (ok : okF l F) (cons : conserve n s t l F) (h0 : 0 ≤ s) (h1 : s < n) (hs : C s = true) (ht : C t = false) : outF l F s ≤ capC C l := by
  rw [value_cross hn cons h0 h1 hs ht]; exact cross_le ok
theorem MaxSpec.best {n : Nat} {s t : Int} {l : List Edge} {F F' : List Int} {C : Int → Bool} (h : MaxSpec n s t l F C) (hn : nodesIn n l) (h0 : 0 ≤ s) (h1 : s < n) (ok : okF l F') (cons : conserve n s t l F') : outF l F' s ≤ outF l F s := by
  rw [h.value hn h0 h1]; exact weak hn ok cons h0 h1 h.hs h.ht
theorem MaxSpec.sub {n : Nat} {s t : Int} {l : List Edge} {F F' : List Int} {C C' : Int → Bool} (h : MaxSpec n s t l F C) (h' : MaxSpec n s t l F' C') (hn : nodesIn n l) (h0 : 0 ≤ s) (h1 : s < n) : ∀ v, C v = true → C' v = true := by
  refine h.least C' h'.hs (closed_cross h.ok ?_)
  have a := h.best hn h0 h1 h'.ok h'.cons
  have b := h'.best hn h0 h1 h.ok h.cons
  rw [← value_cross hn h.cons h0 h1 h'.hs h'.ht, ← h'.value hn h0 h1]
  omega
/-- The value and the cut are the same, whichever flow was found. -/
theorem MaxSpec.same {n : Nat} {s t : Int} {l : List Edge} {F F' : List Int} {C C' : Int → Bool} (h : MaxSpec n s t l F C) (h' : MaxSpec n s t l F' C') (hn : nodesIn n l) (h0 : 0 ≤ s) (h1 : s < n) : outF l F s = outF l F' s ∧ C = C' := by
  have a := h.best hn h0 h1 h'.ok h'.cons
  have b := h'.best hn h0 h1 h.ok h.cons
  refine ⟨by omega, funext fun v => ?_⟩
  have c := h.sub h' hn h0 h1 v
  have d := h'.sub h hn h0 h1 v
  cases x : C v <;> cases y : C' v <;> simp_all
end Go.Proofs.YtaiibchadlaifaaGreatDoor

namespace Go.Proofs.YtaiibchadlaifaaGreatDoor

theorem okF_len : ∀ {l : List Edge} {F : List Int}, okF l F → F.length = l.length
  | [], [], _ => rfl
  | _ :: _, _ :: _, h => by simp [okF_len h.2.2]
theorem okF_append {l1 l2 : List Edge} : ∀ {F1 F2 : List Int}, F1.length = l1.length → (okF (l1 ++ l2) (F1 ++ F2) ↔ okF l1 F1 ∧ okF l2 F2) := by
  induction l1 with
  | nil => intro F1 F2 h; cases F1 with
    | nil => simp [okF]
    | cons => simp at h
  | cons e l1 ih => intro F1 F2 h; cases F1 with
    | nil => simp at h
    | cons x F1 => simp only [List.cons_append, okF]; rw [ih (by simpa using h)]; exact ⟨fun ⟨a, b, c, d⟩ => ⟨⟨a, b, c⟩, d⟩, fun ⟨⟨a, b, c⟩, d⟩ => ⟨a, b, c, d⟩⟩
theorem crossF_append {C : Int → Bool} {l1 l2 : List Edge} : ∀ {F1 F2 : List Int}, F1.length = l1.length → crossF C (l1 ++ l2) (F1 ++ F2) = crossF C l1 F1 + crossF C l2 F2 := by
  induction l1 with
  | nil => intro F1 F2 h; cases F1 with
    | nil => simp [crossF]
    | cons => simp at h
  | cons e l1 ih => intro F1 F2 h; cases F1 with
    | nil => simp at h
    | cons x F1 => simp only [List.cons_append, crossF]; rw [ih (by simpa using h)]; omega
theorem crossF_same {C : Int → Bool} : ∀ {l : List Edge} (F : List Int), (∀ e, e ∈ l → C e.f = C e.t) → crossF C l F = 0
  | [], F, _ => by cases F <;> rfl
  | e :: l, [], _ => rfl
  | e :: l, x :: F, h => by
    simp only [crossF]
    rw [crossF_same F (fun e he => h e (by simp [he])), h e (by simp)]; omega
theorem crossF_out {C : Int → Bool} : ∀ {l : List Edge} {F : List Int}, F.length = l.length → (∀ e, e ∈ l → C e.f = true ∧ C e.t = false) → crossF C l F = F.sum
  | [], [], _, _ => rfl
  | e :: l, x :: F, hl, h => by
    obtain ⟨a, b⟩ := h e (by simp)
    simp only [crossF, a, b, List.sum_cons]
    rw [crossF_out (by simpa using hl) (fun e he => h e (by simp [he]))]; simp
theorem mem_upTo {β : Type} {f : Nat → List β} {x : β} : ∀ {n : Nat}, x ∈ upTo f n → ∃ k, k < n ∧ x ∈ f k
  | n + 1, h => by
    rw [upTo, List.mem_append] at h
    rcases h with h | h
    · obtain ⟨k, hk, hx⟩ := mem_upTo h; exact ⟨k, by omega, hx⟩
    · exact ⟨n, by omega, h⟩
theorem mem_edgeA {u : Int} {l : List Att} {e : Edge} (h : e ∈ upTo (edgeA u l) l.length) : e.f = 0 ∧ ∃ i : Nat, i < l.length ∧ e.t = 1 + i := by
  obtain ⟨k, hk, hx⟩ := mem_upTo h
  unfold edgeA at hx
  rw [List.getElem?_eq_getElem hk] at hx
  simp at hx
  subst hx
  exact ⟨rfl, k, hk, rfl⟩
theorem mem_edgeR {m : Nat} {qs : List Req} {e : Edge} (h : e ∈ upTo (edgeR m qs) qs.length) : (∃ k : Nat, k < qs.length ∧ e.f = 1 + m + k) ∧ e.t = 1 + m + qs.length := by
  obtain ⟨k, hk, hx⟩ := mem_upTo h
  unfold edgeR at hx
  rw [List.getElem?_eq_getElem hk] at hx
  simp at hx
  subst hx
  exact ⟨⟨k, hk, rfl⟩, rfl⟩
theorem mem_edgeP {qs : List Req} {l : List Att} {e : Edge} (h : e ∈ (pairsL qs l).map (edgeP l)) : (∃ i : Nat, i < l.length ∧ e.f = 1 + i) ∧ ∃ k : Int, 0 ≤ k ∧ k < qs.length ∧ e.t = 1 + l.length + k := by
  obtain ⟨x, hx, rfl⟩ := List.mem_map.1 h
  obtain ⟨a, b, c⟩ := pairsL_mem hx
  exact ⟨⟨x.1, a, rfl⟩, x.2, b, c, rfl⟩
theorem netL_nodes (p : Prg) (l : List Att) : nodesIn (2 + l.length + p.reqs.length) (netL p l) := by
  intro e he
  unfold netL at he
  rw [List.mem_append, List.mem_append] at he
  rcases he with (he | he) | he
  · obtain ⟨a, i, hi, b⟩ := mem_edgeA he; omega
  · obtain ⟨⟨i, hi, a⟩, k, h0, h1, b⟩ := mem_edgeP he; omega
  · obtain ⟨⟨k, hk, a⟩, b⟩ := mem_edgeR he; omega

/-- The flows of the middle edges. -/
def midF (l : List Att) (k : Nat) (F : List Int) : List Int := (F.drop l.length).take k
theorem edgeA_len (u : Int) (l : List Att) : (upTo (edgeA u l) l.length).length = l.length := by
  have : ∀ n, n ≤ l.length → (upTo (edgeA u l) n).length = n := by
    intro n
    induction n with
    | zero => intro _; rfl
    | succ n ih =>
      intro h
      rw [upTo, List.length_append, ih (by omega)]
      unfold edgeA
      rw [List.getElem?_eq_getElem (by omega)]; rfl
  exact this _ (Nat.le_refl _)

theorem value_mid {p : Prg} {l : List Att} {F : List Int} (ok : okF (netL p l) F) (cons : conserve (2 + l.length + p.reqs.length) 0 (1 + l.length + p.reqs.length) (netL p l) F) :
    outF (netL p l) F 0 = (midF l (pairsL p.reqs l).length F).sum := by
  obtain ⟨C, hC⟩ : ∃ C : Int → Bool, C = fun v : Int => decide (v ≤ (l.length : Int)) := ⟨_, rfl⟩
  rw [value_cross (C := C) (netL_nodes p l) cons (by omega) (by omega) (by rw [hC]; simp) (by rw [hC]; simp; omega)]
  have hlen := okF_len ok
  unfold netL at hlen ⊢
  rw [List.length_append, List.length_append, edgeA_len, List.length_map] at hlen
  have hF : F = F.take l.length ++ midF l (pairsL p.reqs l).length F ++ (F.drop l.length).drop (pairsL p.reqs l).length := by
    rw [List.append_assoc, midF, List.take_append_drop, List.take_append_drop]
  have h1 : (F.take l.length).length = (upTo (edgeA p.uses l) l.length).length := by rw [edgeA_len, List.length_take]; omega
  have h2 : (midF l (pairsL p.reqs l).length F).length = ((pairsL p.reqs l).map (edgeP l)).length := by rw [List.length_map, midF, List.length_take, List.length_drop]; omega
  conv => lhs; rw [hF]
  rw [crossF_append (by rw [List.length_append, List.length_append, h1, h2]), crossF_append h1]
  rw [crossF_same _ (fun e he => ?_), crossF_out h2 (fun e he => ?_), crossF_same _ (fun e he => ?_)]
  · omega
  · obtain ⟨⟨k, hk, a⟩, b⟩ := mem_edgeR he
    rw [hC, a, b]; simp; omega
  · obtain ⟨⟨i, hi, a⟩, k, k0, k1, b⟩ := mem_edgeP he
    rw [hC, a, b]; simp; omega
  · obtain ⟨a, i, hi, b⟩ := mem_edgeA he
    rw [hC, a, b]; simp; omega

/-- The uses that an audit returns: the middle edges along which something flows. -/
def usesL (ps : List (Nat × Int)) (F : List Int) : List Use := (ps.zip F).filterMap fun x => if 0 < x.2 then some ⟨x.1.1, x.1.2, x.2⟩ else none
theorem usesL_sum : ∀ {ps : List (Nat × Int)} {F : List Int}, F.length = ps.length → (∀ x, x ∈ F → 0 ≤ x) → usedC (usesL ps F) = F.sum
  | [], [], _, _ => rfl
  | q :: ps, x :: F, hl, h => by
    have ih := usesL_sum (ps := ps) (F := F) (by simpa using hl) (fun y hy => h y (by simp [hy]))
    have h0 := h x (by simp)
    simp only [usesL, usedC, List.zip_cons_cons] at ih ⊢
    rw [List.filterMap_cons]
    by_cases hx : 0 < x
    · simp only [hx, if_true, List.map_cons, List.sum_cons, ih]
    · simp only [hx, if_false, ih, List.sum_cons]; omega
end Go.Proofs.YtaiibchadlaifaaGreatDoor

namespace Go.Proofs.YtaiibchadlaifaaGreatDoor
open Go.RowKit Go.Shelf

def nodeB (n v : Int) : Bool := decide (0 ≤ v) && decide (v < n)

set_option maxHeartbeats 2000000 in
theorem flow_Check1_c (v n : Int) (B : Nat) (w : World) (h : w.cell? ⟨B, 0, none⟩ = some (.int .i64 n)) :
    Calls Tryz.prog 172 #[.int .i64 v, .pointer (some ⟨B, 0, none⟩)] w fun e w' => e = .returned (.bool (nodeB n v)) ∧ w = w' := by
  by_cases h0 : v < 0
  · have hE : Hid (nodeB n v = false) := by show _ = _; simp [nodeB]; omega
    go_enter Tryz.func172, Tryz.ntmps172
    go_wp2
    go_ret
    exact ⟨ret_congr (by rw [hE.out]; rfl), rfl⟩
  · have hE : Hid (nodeB n v = decide (v < n)) := by show _ = _; simp [nodeB]; omega
    go_enter Tryz.func172, Tryz.ntmps172
    go_wp2
    go_ret
    exact ⟨ret_congr (by rw [hE.out]; rfl), rfl⟩

def flowE (n : Int) (l : List Edge) : Int := if 2 ≤ n ∧ n ≤ 4096 ∧ l.length ≤ 65536 ∧ l.all (edgeOk n) = true then 0 else 180

set_option maxRecDepth 100000 in
set_option maxHeartbeats 4000000 in
theorem flow_Check2_c (x : Edge) (n : Int) (B B0 : Nat) (w : World) (hB : B < w.heap.size) (hB0 : B0 < w.heap.size) (h : w.cell? ⟨B, 0, none⟩ = some (.func (.func 172) #[] #[.pointer (some ⟨B0, 0, none⟩)])) (h0 : w.cell? ⟨B0, 0, none⟩ = some (.int .i64 n)) :
    Calls Tryz.prog 174 #[.agg #[.int .i64 x.f, .int .i64 x.t, .int .i64 x.m], .pointer (some ⟨B, 0, none⟩)] w fun e w' => e = .returned (.bool (!edgeOk n x)) ∧ Below w.heap.size w w' := by
  have h1 := fun v W (hW : Below w.heap.size w W) => flow_Check1_c v n B0 W ((hW.cell (p := ⟨B0, 0, none⟩) hB0).trans h0)
  have hb1 := below1 w (.cells #[.int .i64 x.f, .int .i64 x.t, .int .i64 x.m] 85)
  have h' := (hb1.cell (p := ⟨B, 0, none⟩) hB).trans h
  cases e1 : nodeB n x.f with
  | false =>
    have hE : Hid (edgeOk n x = false) := by show _ = _; simp [edgeOk, nodeB] at e1 ⊢; omega
    go_enter Tryz.func174, Tryz.ntmps174
    go_wp2_with (go_at_call 172; refine (h1 _ _ hb1).mono ?_; rintro e w1 ⟨rfl, rfl⟩)
    go_ret
    exact ⟨ret_congr (by rw [hE.out]; rfl), hb1⟩
  | true =>
  cases e2 : nodeB n x.t with
  | false =>
    have hE : Hid (edgeOk n x = false) := by show _ = _; simp [edgeOk, nodeB] at e2 ⊢; omega
    go_enter Tryz.func174, Tryz.ntmps174
    go_wp2_with (go_at_call 172; refine (h1 _ _ hb1).mono ?_; rintro e w1 ⟨rfl, rfl⟩)
    go_ret
    exact ⟨ret_congr (by rw [hE.out]; rfl), hb1⟩
  | true =>
  have p1 : 0 ≤ x.f ∧ x.f < n := by simpa [nodeB] using e1
  have p2 : 0 ≤ x.t ∧ x.t < n := by simpa [nodeB] using e2
  obtain ⟨p1, p1'⟩ := p1
  obtain ⟨p2, p2'⟩ := p2
  have hE : Hid (edgeOk n x = !(x.f == x.t || decide (x.m < 0) || decide (1073741824 < x.m))) := by
    show _ = _
    unfold edgeOk
    rw [← Bool.not_eq_not, Bool.not_not, Bool.eq_iff_iff]
    simp
    omega
  go_enter Tryz.func174, Tryz.ntmps174
  go_wp2_with (go_at_call 172; refine (h1 _ _ hb1).mono ?_; rintro e w1 ⟨rfl, rfl⟩)
  all_goals go_ret
  all_goals exact ⟨ret_congr (by rw [hE.out]; simp [*]; done), below1 _ _⟩

set_option maxRecDepth 100000 in
set_option maxHeartbeats 4000000 in
theorem flow_Check_c (n : Int) (l : List Edge) (A : Option Addr) (c : Nat) (w : World) (h : Rd kEdge w A l) :
    Calls Tryz.prog 131 #[.int .i64 n, .slice A l.length c] w fun e w' => e = .returned (.int .i64 (flowE n l)) ∧ Below w.heap.size w w' := by
  have hl := h.len
  by_cases h0 : n < 2
  · have hE : Hid (flowE n l = 180) := by show _ = _; unfold flowE; rw [if_neg]; omega
    go_enter Tryz.func131, Tryz.ntmps131
    go_wp2
    go_ret
    exact ⟨ret_congr (by rw [hE.out]; rfl), below1 _ _⟩
  by_cases h1 : 4096 < n
  · have hE : Hid (flowE n l = 180) := by show _ = _; unfold flowE; rw [if_neg]; omega
    go_enter Tryz.func131, Tryz.ntmps131
    go_wp2
    go_ret
    exact ⟨ret_congr (by rw [hE.out]; rfl), below1 _ _⟩
  by_cases h2 : 65536 < l.length
  · have hE : Hid (flowE n l = 180) := by show _ = _; unfold flowE; rw [if_neg]; omega
    go_enter Tryz.func131, Tryz.ntmps131
    go_wp2
    go_ret
    exact ⟨ret_congr (by rw [hE.out]; rfl), below1 _ _⟩
  have hE : Hid (flowE n l = if (l.any fun x => !edgeOk n x) then 180 else 0) := by
    show _ = _
    unfold flowE
    cases ha : l.all (edgeOk n) with
    | true =>
      rw [if_pos ⟨by omega, by omega, by omega, rfl⟩, if_neg]
      intro h3
      obtain ⟨y, hy, h4⟩ := List.any_eq_true.1 h3
      rw [List.all_eq_true.1 ha y hy] at h4; cases h4
    | false =>
      rw [if_neg (by simp), if_pos]
      rw [List.all_eq_false] at ha
      obtain ⟨y, hy, h4⟩ := ha
      exact List.any_eq_true.2 ⟨y, hy, by simpa using h4⟩
  go_enter Tryz.func131, Tryz.ntmps131
  go_wp2_with fail
  have hb0 := alloc2_blk0 w (.cells #[.int .i64 n] 3) (.cells #[.func (.func 172) #[] #[.pointer (some ⟨w.heap.size, 0, none⟩)]] 78)
  have hb1 := alloc2_blk1 w (.cells #[.int .i64 n] 3) (.cells #[.func (.func 172) #[] #[.pointer (some ⟨w.heap.size, 0, none⟩)]] 78)
  have hB := below2 w (.cells #[.int .i64 n] 3) (.cells #[.func (.func 172) #[] #[.pointer (some ⟨w.heap.size, 0, none⟩)]] 78)
  have hz := alloc2_size w (.cells #[.int .i64 n] 3) (.cells #[.func (.func 172) #[] #[.pointer (some ⟨w.heap.size, 0, none⟩)]] 78)
  refine (ec_contains_c _ A c l (w.heap.size + 1) n (h.below hB) (fun W x _ hW => flow_Check2_c x n (w.heap.size + 1) w.heap.size W (by have := hW.size; omega) (by have := hW.size; omega) ((hW.cell (p := ⟨w.heap.size + 1, 0, none⟩) (by simp <;> omega)).trans (blk_cell hb1 0)) ((hW.cell (p := ⟨w.heap.size, 0, none⟩) (by simp <;> omega)).trans (blk_cell hb0 0)))).mono ?_
  rintro e w1 ⟨rfl, hb2⟩
  have hB2 := bthen hB hb2
  clear hb0 hb1 hz hB hb2 h
  cases ha : l.any fun x => !edgeOk n x with
  | true =>
    rw [ha] at hE
    have hE : Hid (flowE n l = 180) := hE.out
    go_wp2
    go_ret
    exact ⟨ret_congr (by rw [hE.out]; rfl), hB2⟩
  | false =>
    rw [ha] at hE
    have hE : Hid (flowE n l = 0) := hE.out
    go_wp2
    go_ret
    exact ⟨ret_congr (by rw [hE.out]; rfl), hB2⟩
end Go.Proofs.YtaiibchadlaifaaGreatDoor

namespace Go.Proofs.YtaiibchadlaifaaGreatDoor
open Go.RowKit Go.Shelf

def endsB (n s t : Int) (l : List Edge) : Bool := decide (flowE n l = 0) && nodeB n s && nodeB n t && decide (s ≠ t)
def endsE (n s t : Int) (l : List Edge) : Int := if endsB n s t l then 0 else 180

set_option maxRecDepth 100000 in
set_option maxHeartbeats 4000000 in
theorem flow_check_c (n s t : Int) (l : List Edge) (A : Option Addr) (c : Nat) (w : World) (h : Rd kEdge w A l) :
    Calls Tryz.prog 72 #[.int .i64 n, .slice A l.length c, .int .i64 s, .int .i64 t] w fun e w' => e = .returned (.int .i64 (endsE n s t l)) ∧ Below w.heap.size w w' := by
  have hc := flow_Check_c n l A c w h
  by_cases h0 : flowE n l = 0
  · rw [h0] at hc
    by_cases e1 : s < 0
    · have hE : Hid (endsE n s t l = 180) := by show _ = _; unfold endsE; rw [if_neg]; simp [endsB, nodeB]; omega
      clear h0
      go_enter Tryz.func72, Tryz.ntmps72
      go_wp2_with (go_at_call 131; refine hc.mono ?_; rintro e w1 ⟨rfl, hb1⟩)
      go_ret
      exact ⟨ret_congr (by rw [hE.out]; rfl), hb1⟩
    by_cases e2 : n ≤ s
    · have hE : Hid (endsE n s t l = 180) := by show _ = _; unfold endsE; rw [if_neg]; simp [endsB, nodeB]; omega
      clear h0
      go_enter Tryz.func72, Tryz.ntmps72
      go_wp2_with (go_at_call 131; refine hc.mono ?_; rintro e w1 ⟨rfl, hb1⟩)
      go_ret
      exact ⟨ret_congr (by rw [hE.out]; rfl), hb1⟩
    by_cases e3 : t < 0
    · have hE : Hid (endsE n s t l = 180) := by show _ = _; unfold endsE; rw [if_neg]; simp [endsB, nodeB]; omega
      clear h0
      go_enter Tryz.func72, Tryz.ntmps72
      go_wp2_with (go_at_call 131; refine hc.mono ?_; rintro e w1 ⟨rfl, hb1⟩)
      go_ret
      exact ⟨ret_congr (by rw [hE.out]; rfl), hb1⟩
    by_cases e4 : n ≤ t
    · have hE : Hid (endsE n s t l = 180) := by show _ = _; unfold endsE; rw [if_neg]; simp [endsB, nodeB]; omega
      clear h0
      go_enter Tryz.func72, Tryz.ntmps72
      go_wp2_with (go_at_call 131; refine hc.mono ?_; rintro e w1 ⟨rfl, hb1⟩)
      go_ret
      exact ⟨ret_congr (by rw [hE.out]; rfl), hb1⟩
    by_cases e5 : s = t
    · subst e5
      have hE : Hid (endsE n s s l = 180) := by show _ = _; unfold endsE; rw [if_neg]; simp [endsB]
      clear h0
      go_enter Tryz.func72, Tryz.ntmps72
      go_wp2_with (go_at_call 131; refine hc.mono ?_; rintro e w1 ⟨rfl, hb1⟩)
      go_ret
      exact ⟨ret_congr (by rw [hE.out]; rfl), hb1⟩
    · have hE : Hid (endsE n s t l = 0) := by show _ = _; unfold endsE; rw [if_pos]; simp [endsB, nodeB]; omega
      clear h0
      go_enter Tryz.func72, Tryz.ntmps72
      go_wp2_with (go_at_call 131; refine hc.mono ?_; rintro e w1 ⟨rfl, hb1⟩)
      · exfalso
        rename_i hx
        simp at hx
        omega
      go_ret
      exact ⟨ret_congr (by rw [hE.out]; rfl), hb1⟩
  · have h1 : flowE n l = 180 := by unfold flowE at h0 ⊢; split <;> simp_all
    have hE : Hid (endsE n s t l = 180) := by show _ = _; unfold endsE; rw [if_neg]; simp [endsB, h0]
    rw [h1] at hc
    clear h0 h1
    go_enter Tryz.func72, Tryz.ntmps72
    go_wp2_with (go_at_call 131; refine hc.mono ?_; rintro e w1 ⟨rfl, hb1⟩)
    go_ret
    exact ⟨ret_congr (by rw [hE.out]; rfl), hb1⟩
end Go.Proofs.YtaiibchadlaifaaGreatDoor

namespace Go.Proofs.YtaiibchadlaifaaGreatDoor

/-- How much more can flow along a residual edge; where it ends; where it begins. -/
def capR (l : List Edge) (F : List Int) (r : Nat) : Int := if r % 2 = 0 then ((l[r / 2]?).map fun e => e.m).getD 0 - (F[r / 2]?).getD 0 else (F[r / 2]?).getD 0
def endR (l : List Edge) (r : Nat) : Int := if r % 2 = 0 then ((l[r / 2]?).map fun e => e.t).getD 0 else ((l[r / 2]?).map fun e => e.f).getD 0
def begR (l : List Edge) (r : Nat) : Int := if r % 2 = 0 then ((l[r / 2]?).map fun e => e.f).getD 0 else ((l[r / 2]?).map fun e => e.t).getD 0
/-- The flows behind a push. -/
def pushR (F : List Int) (r : Nat) (d : Int) : List Int := F.set (r / 2) ((F[r / 2]?).getD 0 + (if r % 2 = 0 then d else -d))

theorem endR_flip (l : List Edge) (r r' : Nat) (h : r' / 2 = r / 2) (h2 : r' % 2 ≠ r % 2) : endR l r' = begR l r := by
  unfold endR begR
  rw [h]
  by_cases a : r % 2 = 0
  · rw [if_pos a, if_neg (by omega)]
  · rw [if_neg a, if_pos (by omega)]

theorem nodes_end {n : Nat} {l : List Edge} (h : nodesIn n l) {r : Nat} (hr : r < 2 * l.length) : (0 ≤ endR l r ∧ endR l r < n) ∧ (0 ≤ begR l r ∧ begR l r < n) := by
  have hi : r / 2 < l.length := by omega
  obtain ⟨a, b, c, d⟩ := h l[r / 2] (List.getElem_mem hi)
  unfold endR begR
  rw [List.getElem?_eq_getElem hi]
  by_cases e : r % 2 = 0
  · rw [if_pos e, if_pos e]; exact ⟨⟨c, d⟩, ⟨a, b⟩⟩
  · rw [if_neg e, if_neg e]; exact ⟨⟨a, b⟩, ⟨c, d⟩⟩

theorem closedR_of {C : Int → Bool} : ∀ {l : List Edge} {F : List Int}, (∀ r, r < 2 * l.length → 0 < capR l F r → C (begR l r) = true → C (endR l r) = true) → F.length = l.length → closedR C l F
  | [], _, _, _ => by simp [closedR]
  | e :: l, [], _, hl => by simp at hl
  | e :: l, x :: F, h, hl => by
    refine ⟨fun hc hx => ?_, fun hc hx => ?_, closedR_of (fun r hr hcap hb => ?_) (by simpa using hl)⟩
    · have := h 0 (by simp) (by simp [capR]; omega) (by simpa [begR] using hc)
      simpa [endR] using this
    · have := h 1 (by simp; omega) (by simp [capR]; omega) (by simpa [begR] using hc)
      simpa [endR] using this
    · have e1 : (r + 2) / 2 = r / 2 + 1 := by omega
      have e2 : (r + 2) % 2 = r % 2 := by omega
      have := h (r + 2) (by simp; omega) (by simpa [capR, e1, e2] using hcap) (by simpa [begR, e1, e2] using hb)
      simpa [endR, e1, e2] using this
theorem closedR_at {C : Int → Bool} : ∀ {l : List Edge} {F : List Int}, closedR C l F → F.length = l.length → ∀ r, r < 2 * l.length → 0 < capR l F r → C (begR l r) = true → C (endR l r) = true
  | [], _, _, _, r, hr, _, _ => by simp at hr
  | e :: l, [], _, hl, _, _, _, _ => by simp at hl
  | e :: l, x :: F, ⟨h1, h2, h3⟩, hl, r, hr, hcap, hb => by
    by_cases r0 : r = 0
    · subst r0; simp [capR, begR, endR] at *; exact h1 hb (by omega)
    by_cases r1 : r = 1
    · subst r1; simp [capR, begR, endR] at *; exact h2 hb (by omega)
    obtain ⟨q, rfl⟩ : ∃ q, r = q + 2 := ⟨r - 2, by omega⟩
    have e1 : (q + 2) / 2 = q / 2 + 1 := by omega
    have e2 : (q + 2) % 2 = q % 2 := by omega
    have := closedR_at h3 (by simpa using hl) q (by simp at hr; omega) (by simpa [capR, e1, e2] using hcap) (by simpa [begR, e1, e2] using hb)
    simpa [endR, e1, e2] using this

theorem outF_set : ∀ {l : List Edge} {F : List Int} {i : Nat} {e : Edge} {x : Int} (d v : Int), l[i]? = some e → F[i]? = some x →
    outF l (F.set i (x + d)) v = outF l F v + ((if v = e.f then d else 0) + -(if v = e.t then d else 0))
  | _ :: _, _ :: _, 0, _, _, d, v, h1, h2 => by
    cases h1; cases h2
    simp only [List.set_cons_zero, outF]
    split <;> split <;> omega
  | _ :: _, _ :: _, i + 1, _, _, d, v, h1, h2 => by
    simp only [List.set_cons_succ, outF]
    rw [outF_set d v (by simpa using h1) (by simpa using h2)]
    omega
theorem okF_set : ∀ {l : List Edge} {F : List Int} {i : Nat} {e : Edge} {y : Int}, okF l F → l[i]? = some e → 0 ≤ y → y ≤ e.m → okF l (F.set i y)
  | [], [], _, _, _, _, h1, _, _ => by simp at h1
  | _ :: _, _ :: _, 0, _, _, h, h1, a, b => by cases h1; exact ⟨a, b, h.2.2⟩
  | _ :: _, _ :: _, i + 1, _, _, h, h1, a, b => ⟨h.1, h.2.1, okF_set h.2.2 (by simpa using h1) a b⟩
theorem okF_get : ∀ {l : List Edge} {F : List Int} {i : Nat} {e : Edge} {x : Int}, okF l F → l[i]? = some e → F[i]? = some x → 0 ≤ x ∧ x ≤ e.m
  | _ :: _, _ :: _, 0, _, _, h, h1, h2 => by cases h1; cases h2; exact ⟨h.1, h.2.1⟩
  | _ :: _, _ :: _, i + 1, _, _, h, h1, h2 => okF_get h.2.2 (by simpa using h1) (by simpa using h2)
theorem okF_length : ∀ {l : List Edge} {F : List Int}, okF l F → F.length = l.length
  | [], [], _ => rfl
  | _ :: _, _ :: _, h => by simp [okF_length h.2.2]

theorem okF_bound {l : List Edge} {F : List Int} {M : Int} (h : okF l F) (hm : ∀ e, e ∈ l → e.m ≤ M) : ∀ x, x ∈ F → 0 ≤ x ∧ x ≤ M := by
  intro x hx
  obtain ⟨i, hi, rfl⟩ := List.mem_iff_getElem.1 hx
  have hl := okF_length h
  have h1 : l[i]? = some (l[i]'(by omega)) := List.getElem?_eq_getElem (by omega)
  have := okF_get h h1 (List.getElem?_eq_getElem hi)
  have := hm _ (List.mem_of_getElem? h1)
  omega

theorem pushR_len (F : List Int) (r : Nat) (d : Int) : (pushR F r d).length = F.length := by simp [pushR]
theorem outF_push {l : List Edge} {F : List Int} {r : Nat} (d v : Int) (hl : F.length = l.length) (hr : r < 2 * l.length) :
    outF l (pushR F r d) v = outF l F v + ((if v = begR l r then d else 0) + -(if v = endR l r then d else 0)) := by
  have h1 : l[r / 2]? = some (l[r / 2]'(by omega)) := List.getElem?_eq_getElem (by omega)
  have h2 : F[r / 2]? = some (F[r / 2]'(by omega)) := List.getElem?_eq_getElem (by omega)
  unfold pushR begR endR
  rw [h1, h2]
  simp only [Option.getD_some, Option.map_some]
  rw [outF_set _ v h1 h2]
  by_cases e : r % 2 = 0
  · simp only [e, if_true]
  · simp only [e, if_false]
    split <;> split <;> omega
theorem okF_push {l : List Edge} {F : List Int} {r : Nat} {d : Int} (h : okF l F) (hr : r < 2 * l.length) (h0 : 0 ≤ d) (hd : d ≤ capR l F r) : okF l (pushR F r d) := by
  have hl := okF_length h
  have h1 : l[r / 2]? = some (l[r / 2]'(by omega)) := List.getElem?_eq_getElem (by omega)
  have h2 : F[r / 2]? = some (F[r / 2]'(by omega)) := List.getElem?_eq_getElem (by omega)
  obtain ⟨a, b⟩ := okF_get h h1 h2
  unfold pushR
  unfold capR at hd
  rw [h1, h2] at hd
  rw [h2]
  simp only [Option.getD_some, Option.map_some] at hd ⊢
  by_cases e : r % 2 = 0
  · simp only [e, if_true] at hd ⊢; exact okF_set h h1 (by omega) (by omega)
  · simp only [e, if_false] at hd ⊢; exact okF_set h h1 (by omega) (by omega)
theorem capR_push {l : List Edge} {F : List Int} {r r' : Nat} {d : Int} (h : r / 2 ≠ r' / 2) : capR l (pushR F r d) r' = capR l F r' := by
  unfold capR pushR
  rw [List.getElem?_set_ne h]

def pushAll (F : List Int) : List Nat → Int → List Int
  | [], _ => F
  | r :: p, d => pushAll (pushR F r d) p d
theorem pushAll_len : ∀ (p : List Nat) (F : List Int) (d : Int), (pushAll F p d).length = F.length
  | [], _, _ => rfl
  | r :: p, F, d => by rw [pushAll, pushAll_len p, pushR_len]
theorem pushAll_snoc : ∀ (p : List Nat) (F : List Int) (r : Nat) (d : Int), pushAll F (p ++ [r]) d = pushR (pushAll F p d) r d
  | [], _, _, _ => rfl
  | q :: p, F, r, d => by rw [List.cons_append, pushAll, pushAll, pushAll_snoc p]
theorem okF_pushAll {l : List Edge} {d : Int} (h0 : 0 ≤ d) : ∀ {p : List Nat} {F : List Int}, okF l F → (∀ r, r ∈ p → r < 2 * l.length ∧ d ≤ capR l F r) → (p.map (· / 2)).Nodup → okF l (pushAll F p d)
  | [], _, h, _, _ => h
  | r :: p, F, h, hp, hn => by
    have hr := hp r (by simp)
    simp only [List.map_cons, List.nodup_cons] at hn
    rw [pushAll]
    refine okF_pushAll h0 (okF_push h hr.1 h0 hr.2) (fun q hq => ⟨(hp q (by simp [hq])).1, ?_⟩) hn.2
    rw [capR_push (fun e => hn.1 (List.mem_map.2 ⟨q, hq, e.symm⟩))]
    exact (hp q (by simp [hq])).2

/-- The residual edges from a node back to s, as the search found them. -/
def Chain (l : List Edge) (bys : List Int) (s : Nat) : Nat → List Nat → Prop
  | v, [] => v = s
  | v, r :: p => v ≠ s ∧ bys[v]? = some (r : Int) ∧ endR l r = v ∧ ∃ b : Nat, begR l r = b ∧ Chain l bys s b p
theorem outF_chain {l : List Edge} {bys : List Int} {s : Nat} (d x : Int) : ∀ {p : List Nat} {v : Nat} {F : List Int}, Chain l bys s v p → F.length = l.length → (∀ r, r ∈ p → r < 2 * l.length) →
    outF l (pushAll F p d) x = outF l F x + ((if x = s then d else 0) + -(if x = v then d else 0))
  | [], v, F, h, _, _ => by
    have : v = s := h
    subst this; rw [pushAll]; split <;> omega
  | r :: p, v, F, ⟨_, _, h2, b, h3, h4⟩, hl, hp => by
    rw [pushAll, outF_chain d x h4 (by rw [pushR_len]; exact hl) (fun q hq => hp q (by simp [hq])), outF_push d x hl (hp r (by simp)), h2, h3]
    omega

def minP (l : List Edge) (F : List Int) (M : Int) : List Nat → Int
  | [] => M
  | r :: p => minP l F (min M (capR l F r)) p
theorem minP_snoc {l : List Edge} {F : List Int} {r : Nat} : ∀ (p : List Nat) (M : Int), minP l F M (p ++ [r]) = min (minP l F M p) (capR l F r)
  | [], _ => rfl
  | q :: p, M => by rw [List.cons_append, minP, minP, minP_snoc p]
theorem minP_le {l : List Edge} {F : List Int} : ∀ (p : List Nat) (M : Int), minP l F M p ≤ M ∧ ∀ r, r ∈ p → minP l F M p ≤ capR l F r
  | [], M => ⟨Int.le_refl _, fun _ h => by cases h⟩
  | q :: p, M => by
    obtain ⟨a, b⟩ := minP_le (l := l) (F := F) p (min M (capR l F q))
    rw [minP]
    refine ⟨by omega, fun r hr => ?_⟩
    rcases List.mem_cons.1 hr with rfl | hr
    · omega
    · exact b r hr
theorem minP_pos {l : List Edge} {F : List Int} : ∀ (p : List Nat) (M : Int), 1 ≤ M → (∀ r, r ∈ p → 0 < capR l F r) → 1 ≤ minP l F M p
  | [], _, h, _ => h
  | q :: p, M, h, hp => by
    have := hp q (by simp)
    exact minP_pos p _ (by omega) (fun r hr => hp r (by simp [hr]))

/-- What a search has found so far: the nodes in the order in which they were reached, and by which residual edge. -/
structure Reach (l : List Edge) (F : List Int) (n s : Nat) (bys : List Int) (vis : List Nat) : Prop where
  len : bys.length = n
  nod : vis.Nodup
  lt : ∀ v, v ∈ vis → v < n
  head : vis[0]? = some s
  src : bys[s]? = some ((2 * l.length : Nat) : Int)
  neg : ∀ v, v < n → v ∉ vis → bys[v]? = some (-1)
  par : ∀ (i u : Nat), vis[i]? = some u → i ≠ 0 → ∃ r : Nat, bys[u]? = some (r : Int) ∧ r < 2 * l.length ∧ 0 < capR l F r ∧ endR l r = u ∧ ∃ j b : Nat, j < i ∧ vis[j]? = some b ∧ begR l r = b

theorem Reach.start (l : List Edge) (F : List Int) {n s : Nat} (hs : s < n) : Reach l F n s ((List.replicate n (-1)).set s ((2 * l.length : Nat) : Int)) [s] where
  len := by simp
  nod := by simp
  lt := fun v hv => by rw [List.mem_singleton.1 hv]; exact hs
  head := rfl
  src := by simp [hs]
  neg := fun v hv hn => by rw [List.getElem?_set_ne (by intro e; subst e; simp at hn)]; simp [hv]
  par := fun i u h h0 => by cases i with
    | zero => exact absurd rfl h0
    | succ i => simp at h

theorem Reach.mem {l : List Edge} {F : List Int} {n s : Nat} {bys : List Int} {vis : List Nat} (h : Reach l F n s bys vis) {v : Nat} {x : Int} (hv : v < n) (hx : bys[v]? = some x) : v ∈ vis ↔ 0 ≤ x := by
  constructor
  · intro hm
    obtain ⟨i, hi⟩ := List.mem_iff_getElem?.1 hm
    by_cases i0 : i = 0
    · subst i0; rw [h.head] at hi; cases hi; rw [h.src] at hx; cases hx; omega
    · obtain ⟨r, hr, _⟩ := h.par i v hi i0; rw [hr] at hx; cases hx; omega
  · intro h0
    by_cases hm : v ∈ vis
    · exact hm
    · rw [h.neg v hv hm] at hx; cases hx; omega
theorem Reach.step {l : List Edge} {F : List Int} {n s : Nat} {bys : List Int} {vis : List Nat} (h : Reach l F n s bys vis) {u v r : Nat} (hu : u < n) (hn : u ∉ vis) (hv : v ∈ vis) (hr : r < 2 * l.length) (hc : 0 < capR l F r) (he : endR l r = u) (hb : begR l r = v) :
    Reach l F n s (bys.set u (r : Int)) (vis ++ [u]) := by
  obtain ⟨j0, hj0⟩ := List.mem_iff_getElem?.1 hv
  have hjl := (List.getElem?_eq_some_iff.1 hj0).1
  have hsm : s ∈ vis := List.mem_of_getElem? h.head
  refine ⟨by rw [List.length_set, h.len], ?_, ?_, ?_, ?_, ?_, ?_⟩
  · rw [List.nodup_append]; exact ⟨h.nod, by simp, fun a ha b hb' => by rw [List.mem_singleton.1 hb']; rintro rfl; exact hn ha⟩
  · intro x hx; rw [List.mem_append] at hx; rcases hx with hx | hx
    · exact h.lt x hx
    · rw [List.mem_singleton.1 hx]; exact hu
  · rw [List.getElem?_append_left (by omega)]; exact h.head
  · rw [List.getElem?_set_ne (by rintro rfl; exact hn hsm)]; exact h.src
  · intro x hx hnx
    rw [List.mem_append] at hnx
    rw [List.getElem?_set_ne (by rintro rfl; exact hnx (.inr (by simp)))]
    exact h.neg x hx (fun q => hnx (.inl q))
  · intro i x hi i0
    by_cases hil : i < vis.length
    · rw [List.getElem?_append_left hil] at hi
      obtain ⟨r', h1, h2, h3, h4, j, b, hj, hjb, h5⟩ := h.par i x hi i0
      have hxm := List.mem_of_getElem? hi
      exact ⟨r', by rw [List.getElem?_set_ne (by rintro rfl; exact hn hxm)]; exact h1, h2, h3, h4, j, b, hj, by rw [List.getElem?_append_left (by omega)]; exact hjb, h5⟩
    · rw [List.getElem?_append_right (by omega)] at hi
      have hx : x = u := by
        cases hk : i - vis.length with
        | zero => rw [hk] at hi; simpa using hi.symm
        | succ k => rw [hk] at hi; simp at hi
      subst hx
      exact ⟨r, by simp [h.len, hu], hr, hc, he, j0, v, by omega, by rw [List.getElem?_append_left hjl]; exact hj0, hb⟩

/-- A path back from a reached node: its residual edges are usable, and no edge occurs twice. -/
theorem Reach.chain {l : List Edge} {F : List Int} {n s : Nat} {bys : List Int} {vis : List Nat} (h : Reach l F n s bys vis) : ∀ (i v : Nat), vis[i]? = some v →
    ∃ p, Chain l bys s v p ∧ (∀ r, r ∈ p → r < 2 * l.length ∧ 0 < capR l F r) ∧ (p.map (· / 2)).Nodup ∧ (∀ r, r ∈ p → ∃ j u, j ≤ i ∧ vis[j]? = some u ∧ endR l r = u) ∧ (∀ r, r ∈ p → ∃ j u, j < i ∧ vis[j]? = some u ∧ begR l r = u) := by
  intro i
  induction i using Nat.strongRecOn with
  | _ i ih =>
    intro v hv
    by_cases i0 : i = 0
    · subst i0
      rw [h.head] at hv; cases hv
      exact ⟨[], rfl, by simp, by simp, by simp, by simp⟩
    · obtain ⟨r, h1, h2, h3, h4, j, b, hj, hjb, h5⟩ := h.par i v hv i0
      obtain ⟨p, p1, p2, p3, p4, p5⟩ := ih j hj b hjb
      have hne : v ≠ s := by
        rintro rfl
        exact i0 ((List.getElem?_inj (List.getElem?_eq_some_iff.1 hv).1 h.nod).1 (hv.trans h.head.symm))
      have inj : ∀ {a b x : Nat}, vis[a]? = some x → vis[b]? = some x → a = b := by
        intro a b x ha hb
        exact (List.getElem?_inj (List.getElem?_eq_some_iff.1 ha).1 h.nod).1 (ha.trans hb.symm)
      refine ⟨r :: p, ⟨hne, h1, h4, b, h5, p1⟩, ?_, ?_, ?_, ?_⟩
      · intro q hq; rcases List.mem_cons.1 hq with rfl | hq
        · exact ⟨h2, h3⟩
        · exact p2 q hq
      · rw [List.map_cons, List.nodup_cons]
        refine ⟨fun hm => ?_, p3⟩
        obtain ⟨q, hq, he⟩ := List.mem_map.1 hm
        have he : q / 2 = r / 2 := he
        obtain ⟨j1, u1, hj1, hu1, e1⟩ := p4 q hq
        obtain ⟨j2, u2, hj2, hu2, e2⟩ := p5 q hq
        by_cases hp : q % 2 = r % 2
        · have : q = r := by omega
          subst this
          rw [h4] at e1
          have : v = u1 := by omega
          subst this
          have := inj hv hu1
          omega
        · have := endR_flip l r q he hp
          have e3 := endR_flip l q r he.symm (Ne.symm hp)
          rw [h4, e2] at e3
          have : v = u2 := by omega
          subst this
          have := inj hv hu2
          omega
      · intro q hq; rcases List.mem_cons.1 hq with rfl | hq
        · exact ⟨i, v, Nat.le_refl _, hv, h4⟩
        · obtain ⟨a, b, c, d⟩ := p4 q hq; exact ⟨a, b, by omega, d⟩
      · intro q hq; rcases List.mem_cons.1 hq with rfl | hq
        · exact ⟨j, b, hj, hjb, h5⟩
        · obtain ⟨a, b, c, d⟩ := p5 q hq; exact ⟨a, b, by omega, d⟩

/-- The cut that a search tells. -/
def cutOf (bys : List Int) (v : Int) : Bool := decide (0 ≤ v) && ((bys[v.toNat]?).map fun x => decide (0 ≤ x)).getD false
theorem Reach.cut {l : List Edge} {F : List Int} {n s : Nat} {bys : List Int} {vis : List Nat} (h : Reach l F n s bys vis) (v : Int) : cutOf bys v = true ↔ ∃ u : Nat, v = u ∧ u ∈ vis := by
  unfold cutOf
  constructor
  · intro hc
    rw [Bool.and_eq_true] at hc
    obtain ⟨h0, h1⟩ := hc
    have h0 : 0 ≤ v := by simpa using h0
    refine ⟨v.toNat, by omega, ?_⟩
    cases hb : bys[v.toNat]? with
    | none => rw [hb] at h1; cases h1
    | some x =>
      rw [hb] at h1
      have hv := (List.getElem?_eq_some_iff.1 hb).1
      rw [h.len] at hv
      exact (h.mem hv hb).2 (by simpa using h1)
  · rintro ⟨u, rfl, hu⟩
    have hv := h.lt u hu
    have hb : bys[u]? = some (bys[u]'(by rw [h.len]; exact hv)) := List.getElem?_eq_getElem _
    have := (h.mem hv hb).1 hu
    simp [hb, this]

theorem Reach.spec {l : List Edge} {F : List Int} {n s t : Nat} {bys : List Int} {vis : List Nat} (h : Reach l F n s bys vis) (ok : okF l F) (cons : conserve n s t l F) (ht : t ∉ vis)
    (hcl : ∀ (v r : Nat), v ∈ vis → r < 2 * l.length → 0 < capR l F r → begR l r = v → ∃ u : Nat, u ∈ vis ∧ endR l r = u) : MaxSpec n s t l F (cutOf bys) where
  ok := ok
  cons := cons
  hs := (h.cut _).2 ⟨s, rfl, List.mem_of_getElem? h.head⟩
  ht := by
    cases hc : cutOf bys t with
    | false => rfl
    | true => obtain ⟨u, hu, hm⟩ := (h.cut _).1 hc; have : t = u := by omega
              subst this; exact absurd hm ht
  closed := closedR_of (fun r hr hcap hb => by
    obtain ⟨v, hv, hm⟩ := (h.cut _).1 hb
    obtain ⟨u, hu, he⟩ := hcl v r hm hr hcap hv
    exact (h.cut _).2 ⟨u, he, hu⟩) (okF_length ok)
  least := by
    intro C' hs' hcl' v hv
    obtain ⟨u, rfl, hu⟩ := (h.cut _).1 hv
    obtain ⟨i, hi⟩ := List.mem_iff_getElem?.1 hu
    clear hu hv
    induction i using Nat.strongRecOn generalizing u with
    | _ i ih =>
      by_cases i0 : i = 0
      · subst i0; rw [h.head] at hi; cases hi; exact hs'
      · obtain ⟨r, h1, h2, h3, h4, j, b, hj, hjb, h5⟩ := h.par i u hi i0
        have := closedR_at hcl' (okF_length ok) r h2 h3 (by rw [h5]; exact ih j hj b hjb)
        rw [h4] at this; exact this

theorem outF_zero : ∀ (l : List Edge) (v : Int), outF l (List.replicate l.length 0) v = 0
  | [], _ => rfl
  | e :: l, v => by simp only [List.length_cons, List.replicate_succ, outF, outF_zero l v]; split <;> split <;> rfl
theorem okF_zero : ∀ {l : List Edge}, (∀ e, e ∈ l → 0 ≤ e.m) → okF l (List.replicate l.length 0)
  | [], _ => trivial
  | e :: l, h => ⟨Int.le_refl _, h e (by simp), okF_zero (fun x hx => h x (by simp [hx]))⟩

/-- One augmentation: still a flow, of a greater value. -/
theorem augment_ok {l : List Edge} {F : List Int} {n s t : Nat} {bys : List Int} {p : List Nat} {d : Int} (ok : okF l F) (cons : conserve n s t l F) (hst : s ≠ t) (hc : Chain l bys s t p) (hp : ∀ r, r ∈ p → r < 2 * l.length ∧ d ≤ capR l F r) (hnd : (p.map (· / 2)).Nodup) (hd : 1 ≤ d) :
    okF l (pushAll F p d) ∧ conserve n s t l (pushAll F p d) ∧ outF l F s < outF l (pushAll F p d) s := by
  have ho := fun x => outF_chain d x hc (okF_length ok) (fun r hr => (hp r hr).1)
  refine ⟨okF_pushAll (by omega) ok hp hnd, fun v hv h1 h2 => ?_, ?_⟩
  · rw [ho, if_neg h1, if_neg h2, cons v hv h1 h2]; rfl
  · rw [ho, if_pos rfl, if_neg (by omega)]; omega

/-- The residual edges that begin at a node, in order; those along which more can flow. -/
def adjL (l : List Edge) (v : Int) : List Nat := (List.range (2 * l.length)).filter fun r => decide (begR l r = v)
def useL (l : List Edge) (F : List Int) (v : Int) : List Nat := (adjL l v).filter fun r => decide (0 < capR l F r)
theorem mem_adjL {l : List Edge} {v : Int} {r : Nat} : r ∈ adjL l v ↔ r < 2 * l.length ∧ begR l r = v := by simp [adjL]
theorem mem_useL {l : List Edge} {F : List Int} {v : Int} {r : Nat} : r ∈ useL l F v ↔ r < 2 * l.length ∧ begR l r = v ∧ 0 < capR l F r := by simp only [useL, List.mem_filter, mem_adjL, decide_eq_true_eq, and_assoc]
theorem weak1 {n s t : Nat} {l : List Edge} {F : List Int} (hn : nodesIn n l) (ok : okF l F) (cons : conserve n s t l F) (hs : s < n) (hst : s ≠ t) : outF l F s ≤ capC (fun v => decide (v = (s : Int))) l :=
  weak hn ok cons (by omega) (by omega) (by simp) (by simp; omega)
end Go.Proofs.YtaiibchadlaifaaGreatDoor

namespace Go.Proofs.YtaiibchadlaifaaGreatDoor
open Go.RowKit Go.Shelf

/-- A network with its flows, as it lies in memory (its rows of residual edges apart). -/
structure FNet (W : World) (P FB : Nat) (A : Option Addr) (c : Nat) (l : List Edge) (F : List Int) : Prop where
  e : W.cell? ⟨P, 0, none⟩ = some (.slice A l.length c)
  f : W.cell? ⟨P, 1, none⟩ = some (.slice (some ⟨FB, 0, none⟩) l.length l.length)
  blk : W.heap[FB]? = some (.cells (F.map (Value.int .i64)).toArray 3 (0, 0))
  len : F.length = l.length
  rd : Rd kEdge W A l

theorem FNet.flow {W : World} {P FB : Nat} {A : Option Addr} {c : Nat} {l : List Edge} {F : List Int} (h : FNet W P FB A c l F) {i : Nat} (hi : i < l.length) : ∃ x, F[i]? = some x ∧ W.cell? ⟨FB, i, none⟩ = some (.int .i64 x) := by
  have hl := h.len
  refine ⟨F[i]'(by omega), List.getElem?_eq_getElem (by omega), ?_⟩
  rw [blk_cell h.blk i]; simp [List.getElem?_eq_getElem (show i < F.length by omega)]

set_option maxRecDepth 100000 in
set_option maxHeartbeats 4000000 in
theorem flow_end_c (W : World) (P FB : Nat) (A : Option Addr) (c : Nat) (l : List Edge) (F : List Int) (r : Nat) (h : FNet W P FB A c l F) (hr : r < 2 * l.length) :
    Calls Tryz.prog 88 #[.pointer (some ⟨P, 0, none⟩), .int .i64 r] W fun e w' => e = .returned (.int .i64 (endR l r)) ∧ W = w' := by
  have he := h.e
  obtain ⟨x, b, off, hx, rfl, hb, f0, f1, f2⟩ := kEdge_get h.rd (k := r / 2) (by omega)
  have hl := h.rd.len
  obtain ⟨i, hi⟩ : ∃ i, i = r / 2 := ⟨_, rfl⟩
  rw [← hi] at f0 f1 f2 hx
  by_cases h0 : r % 2 = 0
  · have hE : Hid (endR l r = x.t) := by show _ = _; rw [endR, if_pos h0, ← hi, hx.out]; rfl
    obtain ⟨R, hR⟩ : ∃ R : Int, R = (r : Int) := ⟨_, rfl⟩
    have hm : R.tmod 2 = 0 := by rw [hR, Int.tmod_eq_emod_of_nonneg (by omega)]; omega
    have hd : R.tdiv 2 = (i : Int) := by rw [hR, Int.tdiv_eq_ediv_of_nonneg (by omega)]; omega
    have hi1 : (i : Int) < l.length := by omega
    have hi0 : (0 : Int) ≤ i := by omega
    rw [← hR]
    clear hR hi h0 hr
    go_enter Tryz.func88, Tryz.ntmps88
    go_wp2
    go_ret
    exact ⟨ret_congr (by rw [hE.out]; rfl), rfl⟩
  · have hE : Hid (endR l r = x.f) := by show _ = _; rw [endR, if_neg h0, ← hi, hx.out]; rfl
    obtain ⟨R, hR⟩ : ∃ R : Int, R = (r : Int) := ⟨_, rfl⟩
    have hm : R.tmod 2 = 1 := by rw [hR, Int.tmod_eq_emod_of_nonneg (by omega)]; omega
    have hd : R.tdiv 2 = (i : Int) := by rw [hR, Int.tdiv_eq_ediv_of_nonneg (by omega)]; omega
    have hi1 : (i : Int) < l.length := by omega
    have hi0 : (0 : Int) ≤ i := by omega
    rw [← hR]
    clear hR hi h0 hr
    go_enter Tryz.func88, Tryz.ntmps88
    go_wp2
    go_ret
    exact ⟨ret_congr (by rw [hE.out]; rfl), rfl⟩

set_option maxRecDepth 100000 in
set_option maxHeartbeats 4000000 in
theorem flow_capacity_c (W : World) (P FB : Nat) (A : Option Addr) (c : Nat) (l : List Edge) (F : List Int) (r : Nat) (h : FNet W P FB A c l F) (ok : okF l F) (hb30 : ∀ e, e ∈ l → e.m ≤ 1073741824) (hr : r < 2 * l.length) :
    Calls Tryz.prog 90 #[.pointer (some ⟨P, 0, none⟩), .int .i64 r] W fun e w' => e = .returned (.int .i64 (capR l F r)) ∧ ∃ m, w' = W.drewN m := by
  have he := h.e
  have hf := h.f
  obtain ⟨x, b, off, hx, rfl, hb, f0, f1, f2⟩ := kEdge_get h.rd (k := r / 2) (by omega)
  obtain ⟨y, hy, hc⟩ := h.flow (i := r / 2) (by omega)
  obtain ⟨y0, y1⟩ := okF_get ok hx.out hy
  have y2 := hb30 x (List.mem_of_getElem? hx.out)
  have hl := h.rd.len
  have hy : Hid (F[r / 2]? = some y) := hy
  obtain ⟨i, hi⟩ : ∃ i, i = r / 2 := ⟨_, rfl⟩
  rw [← hi] at f0 f1 f2 hx hc hy
  by_cases h0 : r % 2 = 0
  · have hE : Hid (capR l F r = x.m - y) := by show _ = _; rw [capR, if_pos h0, ← hi, hx.out, hy.out]; rfl
    obtain ⟨R, hR⟩ : ∃ R : Int, R = (r : Int) := ⟨_, rfl⟩
    have hm : R.tmod 2 = 0 := by rw [hR, Int.tmod_eq_emod_of_nonneg (by omega)]; omega
    have hd : R.tdiv 2 = (i : Int) := by rw [hR, Int.tdiv_eq_ediv_of_nonneg (by omega)]; omega
    have hi1 : (i : Int) < l.length := by omega
    have hi0 : (0 : Int) ≤ i := by omega
    rw [← hR]
    clear hR hi h0 hr
    go_enter Tryz.func90, Tryz.ntmps90
    go_wp2_with fail
    go_quiet (fail)
    go_wp2
    go_ret
    exact ⟨ret_congr (by rw [hE.out]; rfl), _, rfl⟩
  · have hE : Hid (capR l F r = y) := by show _ = _; rw [capR, if_neg h0, ← hi, hy.out]; rfl
    obtain ⟨R, hR⟩ : ∃ R : Int, R = (r : Int) := ⟨_, rfl⟩
    have hm : R.tmod 2 = 1 := by rw [hR, Int.tmod_eq_emod_of_nonneg (by omega)]; omega
    have hd : R.tdiv 2 = (i : Int) := by rw [hR, Int.tdiv_eq_ediv_of_nonneg (by omega)]; omega
    have hi1 : (i : Int) < l.length := by omega
    have hi0 : (0 : Int) ≤ i := by omega
    rw [← hR]
    clear hR hi h0 hr
    go_enter Tryz.func90, Tryz.ntmps90
    go_wp2
    go_ret
    exact ⟨ret_congr (by rw [hE.out]; rfl), 0, rfl⟩

set_option maxRecDepth 100000 in
set_option maxHeartbeats 4000000 in
theorem flow_push_c (W : World) (P FB : Nat) (A : Option Addr) (c : Nat) (l : List Edge) (F : List Int) (r : Nat) (d : Int) (h : FNet W P FB A c l F) (hr : r < 2 * l.length) (hd0 : 0 ≤ d) (hd1 : d ≤ 1073741824) (hF : ∀ x, x ∈ F → 0 ≤ x ∧ x ≤ 1073741824) :
    Calls Tryz.prog 92 #[.pointer (some ⟨P, 0, none⟩), .int .i64 r, .int .i64 d] W fun e w' => (∃ v, e = .returned v) ∧ w' = W.setCell ⟨FB, r / 2, none⟩ (.int .i64 ((F[r / 2]?).getD 0 + (if r % 2 = 0 then d else -d))) := by
  have hf := h.f
  obtain ⟨y, hy, hc⟩ := h.flow (i := r / 2) (by omega)
  obtain ⟨y0, y1⟩ := hF y (List.mem_of_getElem? hy)
  have hz := blk_frozen h.blk (r / 2)
  have hl := h.rd.len
  rw [hy]
  obtain ⟨i, hi⟩ : ∃ i, i = r / 2 := ⟨_, rfl⟩
  rw [← hi] at hc hz ⊢
  obtain ⟨R, hR⟩ : ∃ R : Int, R = (r : Int) := ⟨_, rfl⟩
  have hq : R.tdiv 2 = (i : Int) := by rw [hR, Int.tdiv_eq_ediv_of_nonneg (by omega)]; omega
  have hi1 : (i : Int) < l.length := by omega
  have hi0 : (0 : Int) ≤ i := by omega
  by_cases h0 : r % 2 = 0
  · have hm : R.tmod 2 = 0 := by rw [hR, Int.tmod_eq_emod_of_nonneg (by omega)]; omega
    rw [← hR, if_pos h0]
    clear hR hi h0 hr hy hF
    go_enter Tryz.func92, Tryz.ntmps92
    go_wp2
    go_end0
    exact ⟨⟨_, rfl⟩, rfl⟩
  · have hm : R.tmod 2 = 1 := by rw [hR, Int.tmod_eq_emod_of_nonneg (by omega)]; omega
    rw [← hR, if_neg h0]
    clear hR hi h0 hr hy hF
    go_enter Tryz.func92, Tryz.ntmps92
    go_wp2
    go_end0
    exact ⟨⟨_, rfl⟩, rfl⟩

theorem FNet.push {W : World} {P FB : Nat} {A : Option Addr} {c : Nat} {l : List Edge} {F : List Int} (h : FNet W P FB A c l F) (hP : P ≠ FB) {n : Nat} (hA : SRd n kEdge W A l) (hn : n ≤ FB) (i : Nat) (y : Int) (hi : i < l.length) : FNet (W.setCell ⟨FB, i, none⟩ (.int .i64 y)) P FB A c l (F.set i y) := by
  refine ⟨?_, ?_, ?_, by rw [List.length_set]; exact h.len, hA _ ((Below.refl _ W).setCell (p := ⟨FB, i, none⟩) hn _)⟩
  · exact (World.cell?_of_block (Below.heap_setCell W ⟨FB, i, none⟩ _ P hP)).trans h.e
  · exact (World.cell?_of_block (Below.heap_setCell W ⟨FB, i, none⟩ _ P hP)).trans h.f
  · rw [heap_setCell_same W FB i _ _ _ h.blk]
    simp [List.map_set]
end Go.Proofs.YtaiibchadlaifaaGreatDoor

namespace Go.Proofs.YtaiibchadlaifaaGreatDoor
open Go.RowKit Go.Shelf

section
variable {P : Program} {ops : Array Oper} {md : Region.Mode} {S : World → Prop} {Q : Exit → Act → World → Prop}

def okG (md : Region.Mode) (ops : Array Oper) (n : Nat) : Bool := Region.noSelect ops && Region.sinkB md ops n && Region.chainB md ops n && decide (n < ops.size)
def takeB (md : Region.Mode) (ops : Array Oper) (n i : Nat) (listed : Array Bool) : Bool := Region.free md ops listed i && (Region.ready md ops listed).contains i && decide (i < n)
def onlyB (md : Region.Mode) (ops : Array Oper) (n i : Nat) (listed : Array Bool) : Bool := Region.ready md ops listed == [i] && decide (i < n)
/-- From here on: the head's operations in whatever order, S kept; then the tail from n on. -/
def wpG (P : Program) (md : Region.Mode) (ops : Array Oper) (Q : Exit → Act → World → Prop) (S : World → Prop) (n f : Nat) (listed : Array Bool) (a : Act) (w : World) : Prop :=
  okG md ops n = true → (∀ d v c a w, Q (.panic c) (Act.put a d v) w → Q (.panic c) a w) → HeadInv md ops n listed → S w → wpAnyG P md ops Q S n (fun listed' a' w' => Region.seqB md ops (ops.size - n) n listed' = true ∧ wpList P ops Q (ops.toList.drop n) a' w') f listed a w

theorem wpG_take {n i f : Nat} {oi : Oper} {v : Value} {listed : Array Bool} {a : Act} {w : World} (hi : ops[i]? = some oi) (hB : takeB md ops n i listed = true)
    (hy : YieldsIf P ops S oi v a) (h : wpG P md ops Q S n f (listed.setIfInBounds i true) (a.put oi.dst v) w) : wpG P md ops Q S n (f + 1) listed a w := fun hok hQ inv hS => by
  have hok' := hok
  simp only [okG, Bool.and_eq_true, decide_eq_true_eq] at hok'
  obtain ⟨⟨⟨hsel, hs⟩, hc⟩, hn⟩ := hok'
  simp only [takeB, Bool.and_eq_true, decide_eq_true_eq] at hB
  obtain ⟨⟨hf, hr⟩, hin⟩ := hB
  exact wpAnyG_first hi (Region.noSelect_spec hsel) (fun c a w => hQ oi.dst v c a w) hs hc hn hin (fun _ _ _ hL => seqB_ready hL.1) f listed a w inv (Region.free_spec hi hf) (by simpa using hr) hy hS (h hok hQ (inv.set (by simpa using hr) hin) hS)
theorem wpG_yield {n i f : Nat} {oi : Oper} {v : Value} {listed : Array Bool} {a : Act} {w : World} (hi : ops[i]? = some oi) (hB : takeB md ops n i listed = true) (hw : Region.wanted oi (yielded ops a.tmps) = true)
    (hy : ∀ w, S w → (execOp a.eval oi).run P w = .ok (.value v) w) (h : wpG P md ops Q S n f (listed.setIfInBounds i true) (a.put oi.dst v) w) : wpG P md ops Q S n (f + 1) listed a w := wpG_take hi hB (.inl ⟨hw, hy⟩) h

theorem wpG_only {n i f : Nat} {oi : Oper} {listed : Array Bool} {a : Act} {w : World} (hi : ops[i]? = some oi) (hB : onlyB md ops n i listed = true) (hw : Region.wanted oi (yielded ops a.tmps) = true)
    (h : ∃ v w', (execOp a.eval oi).run P w = .ok (.value v) w' ∧ S w' ∧ wpG P md ops Q S n f (listed.setIfInBounds i true) (a.put oi.dst v) w') : wpG P md ops Q S n (f + 1) listed a w := fun hok hQ inv hS => by
  obtain ⟨v, w', hrun, hS', hk⟩ := h
  simp only [onlyB, Bool.and_eq_true, decide_eq_true_eq, beq_iff_eq] at hB
  obtain ⟨hr, hin⟩ := hB
  refine ⟨fun e => by (rw [hr] at e; cases e), fun j hj => ?_⟩
  rw [hr, List.mem_singleton] at hj
  subst hj
  refine ⟨hin, ?_⟩
  unfold wpOp
  simp only [hi, hw, if_true, Oper.wp, hrun, Oper.upon]
  exact .inl ⟨hS', hk hok hQ (inv.set (by rw [hr]; simp) hin) hS'⟩

theorem wpG_done {n : Nat} {listed : Array Bool} {a : Act} {w : World} (hB : Region.seqB md ops (ops.size - n) n listed = true) (h : wpList P ops Q (ops.toList.drop n) a w) : wpG P md ops Q S n 0 listed a w := fun _ _ _ _ => ⟨hB, h⟩
end

theorem wpG_start {P : Program} {Q : Exit → Act → World → Prop} {a : Act} {w : World} {ops : Array Oper} (n : Nat) (S : World → Prop) (hok : okG .any ops n = true) (hQ : ∀ d v c a w, Q (.panic c) (Act.put a d v) w → Q (.panic c) a w)
    (hS : S w) (h : wpG P .any ops Q S n n (Array.replicate ops.size false) a w) : wpAny P .any ops Q ops.size (Array.replicate ops.size false) a w := by
  have inv0 : HeadInv .any ops n (Array.replicate ops.size false) :=
    ⟨by simp, fun j oj _ hl => (by rw [getD_replicate_false] at hl; cases hl), fun t _ ht => getD_in (by simpa using ht) (getD_replicate_false _ _)⟩
  have hok' := hok
  simp only [okG, Bool.and_eq_true, decide_eq_true_eq] at hok'
  have := wpAny_of_headG (Q := Q) (g := ops.size - n) (fun listed a' w' hL => by
    have := wpAny_of_seq (md := .any) (Q' := Q) (ops.toList.drop n) n listed a' w' (fun j => by simp [List.getElem?_drop]) (by rw [List.length_drop, Array.length_toList]; exact hL.1) hL.2
    rwa [List.length_drop, Array.length_toList] at this) _ _ _ _ (h hok hQ inv0 hS)
  rw [show n + (ops.size - n) = ops.size by omega] at this
  exact this
theorem wp_region_G {P : Program} {id : Nat} {Q : Exit → Act → World → Prop} {a : Act} {w : World} {ops : Array Oper} (n : Nat) (S : World → Prop) (hm : P.follows .mixedOrders = true) (hok : okG .any ops n = true) (hQ : ∀ d v c a w, Q (.panic c) (Act.put a d v) w → Q (.panic c) a w)
    (hS : S w.drew) (h : wpG P .any ops Q S n n (Array.replicate ops.size false) a w.drew) : (Code.region id ops true).wp P Q a w :=
  wp_region_any hm (wpG_start n S hok hQ hS h)
theorem wpIn_region_G {ro : Option Nat} {m : Nat} {P : Program} {id : Nat} {Q : Exit → Act → World → Prop} {a : Act} {w : World} {ops : Array Oper} (n : Nat) (S : World → Prop) (hQ : ¬ LetsOut Q) (hm : P.follows .mixedOrders = true) (hd : noDefer ops = true) (hok : okG .any ops n = true) (hQp : ∀ d v c a w, Q (.panic c) (Act.put a d v) w → Q (.panic c) a w)
    (hS : S w.drew) (h : wpG P .any ops Q S n n (Array.replicate ops.size false) a w.drew) : (Code.region id ops true).wpIn (FR ro) m P Q a w :=
  wpIn_region_any hm (wpAnyIn_of hQ hd _ _ _ _ (wpG_start n S hok hQp hS h))

/-- 'append(xs, y)' on a row of the call's own, as one operation; where the new row lies. -/
theorem exec_append1 {P : Program} {o : Oper} {a : Act} {w : World} {α : Type} {enc : α → List Value} {sz : Nat} (s x : Operand) (t : TypeId)
    (ho : o.op = .call { callee := .builtin .append, args := #[s, x], argTypes := #[t, t] })
    (e : TypeId) (z : Value) (bytes : Nat) (ht : P.underlying t = some (.slice e)) (hinfo : (P.info? e).map (fun i => (i.zero, i.size, i.bytes)) = some (some z, sz, bytes))
    (hzs : z.cells.size = sz) (hsz : 0 < sz) (henc : ∀ x, (enc x).length = sz) (h1 : ∀ x, ∀ u ∈ enc x, u.oneCell' = true)
    (base : Nat) (v : Value) (xs : List α) (hs : a.eval s = v) (hown : OwnF enc sz e base w v xs)
    (B : Nat) (y : α) (hx : a.eval x = .slice (some ⟨B, 0, none⟩) 1 1) (hnews : ∀ j u, (enc y)[j]? = some u → w.cell? ⟨B, j, none⟩ = some u)
    (hlen : xs.length < 1000000000) (hbytes : bytes ≤ 10000) (hbase : base ≤ w.heap.size) :
    ∃ A c w', (execOp a.eval o).run P w = .ok (.value (.slice A (xs.length + 1) c)) w' ∧ OwnF enc sz e base w' (.slice A (xs.length + 1) c) (xs ++ [y]) ∧ w.grownBy w' v.ownBlock ∧ ((Value.slice A (xs.length + 1) c).ownBlock = v.ownBlock ∨ (Value.slice A (xs.length + 1) c).ownBlock = some w.heap.size) := by
  obtain ⟨i0, hi, hz0, hz1, hz2⟩ := info_parts hinfo
  have hb2 : (xs.length + 1) * bytes ≤ 1000000000 * 10000 := Nat.mul_le_mul (by omega) hbytes
  obtain ⟨v', w', hr, h2, h3, _, h5⟩ := run_append_own_at (P := P) w base t o.type e i0 z sz bytes ht hi hz0 hz1 hz2 hzs hsz v xs.length _ hown ⟨B, 0, none⟩ 1 1 (enc y) (by rw [henc]; omega) (fun j u hj => by
    have := hnews j u hj
    unfold Addr.add; split
    · rename_i h0; subst h0; exact this
    · simpa using this) (h1 y) (by unfold maxLen; omega) (by omega) hbase
  have ho' : OwnF enc sz e base w' v' (xs ++ [y]) := by unfold OwnF; rw [List.length_append, List.flatMap_append]; simpa using h2
  obtain ⟨A, c, hv, _⟩ := ho'.rd henc
  rw [List.length_append] at hv
  have hv : v' = .slice A (xs.length + 1) c := hv
  subst hv
  refine ⟨A, c, w', ?_, ho', h3, h5⟩
  unfold execOp
  simp only [ho, resolve, invoke, builtin, Sem.run_bind, Sem.run_pure, Result.andThen_ok, List.map_toArray, List.map_cons, List.map_nil, hs, hx, hr]

/-- The same as the one operation that may come up in a drawn region. -/
theorem wpG_append1 {P : Program} {ops : Array Oper} {md : Region.Mode} {S : World → Prop} {Q : Exit → Act → World → Prop} {n i f : Nat} {o : Oper} {listed : Array Bool} {a : Act} {w : World} {α : Type} {enc : α → List Value} {sz : Nat} (hi : ops[i]? = some o) (hB : onlyB md ops n i listed = true) (hw : Region.wanted o (yielded ops a.tmps) = true) (s x : Operand) (t : TypeId)
    (ho : o.op = .call { callee := .builtin .append, args := #[s, x], argTypes := #[t, t] })
    (e : TypeId) (z : Value) (bytes : Nat) (ht : P.underlying t = some (.slice e)) (hinfo : (P.info? e).map (fun i => (i.zero, i.size, i.bytes)) = some (some z, sz, bytes))
    (hzs : z.cells.size = sz) (hsz : 0 < sz) (henc : ∀ x, (enc x).length = sz) (h1 : ∀ x, ∀ u ∈ enc x, u.oneCell' = true)
    (base : Nat) (v : Value) (xs : List α) (hs : a.eval s = v) (hown : OwnF enc sz e base w v xs)
    (B : Nat) (y : α) (hx : a.eval x = .slice (some ⟨B, 0, none⟩) 1 1) (hnews : ∀ j u, (enc y)[j]? = some u → w.cell? ⟨B, j, none⟩ = some u)
    (hlen : xs.length < 1000000000) (hbytes : bytes ≤ 10000) (hbase : base ≤ w.heap.size)
    (hK : ∀ A c w', OwnF enc sz e base w' (.slice A (xs.length + 1) c) (xs ++ [y]) → w.grownBy w' v.ownBlock → ((Value.slice A (xs.length + 1) c).ownBlock = v.ownBlock ∨ (Value.slice A (xs.length + 1) c).ownBlock = some w.heap.size) →
      S w' ∧ wpG P md ops Q S n f (listed.setIfInBounds i true) (a.put o.dst (.slice A (xs.length + 1) c)) w') : wpG P md ops Q S n (f + 1) listed a w := by
  obtain ⟨A, c, w', hrun, h2, h3, h4⟩ := exec_append1 (P := P) s x t ho e z bytes ht hinfo hzs hsz henc h1 base v xs hs hown B y hx hnews hlen hbytes hbase
  exact wpG_only hi hB hw ⟨_, w', hrun, hK A c w' h2 h3 h4⟩
/-- 'append(xs, y)' on a row of the call's own; where the new row lies. -/
theorem wpList_append1_at {P : Program} {ops : Array Oper} {rest : List Oper} {o : Oper} {a : Act} {Q : Exit → Act → World → Prop} {w : World} {α : Type} {enc : α → List Value} {sz : Nat} (hgd : o.guard = none) (s x : Operand) (t : TypeId)
    (ho : o.op = .call { callee := .builtin .append, args := #[s, x], argTypes := #[t, t] })
    (e : TypeId) (z : Value) (bytes : Nat) (ht : P.underlying t = some (.slice e)) (hinfo : (P.info? e).map (fun i => (i.zero, i.size, i.bytes)) = some (some z, sz, bytes))
    (hzs : z.cells.size = sz) (hsz : 0 < sz) (henc : ∀ x, (enc x).length = sz) (h1 : ∀ x, ∀ u ∈ enc x, u.oneCell' = true)
    (base : Nat) (v : Value) (xs : List α) (hs : a.eval s = v) (hown : OwnF enc sz e base w v xs)
    (B : Nat) (y : α) (hx : a.eval x = .slice (some ⟨B, 0, none⟩) 1 1) (hnews : ∀ j u, (enc y)[j]? = some u → w.cell? ⟨B, j, none⟩ = some u)
    (hlen : xs.length < 1000000000) (hbytes : bytes ≤ 10000) (hbase : base ≤ w.heap.size)
    (h : ∀ A c w', OwnF enc sz e base w' (.slice A (xs.length + 1) c) (xs ++ [y]) → w.grownBy w' v.ownBlock → ((Value.slice A (xs.length + 1) c).ownBlock = v.ownBlock ∨ (Value.slice A (xs.length + 1) c).ownBlock = some w.heap.size) → wpList P ops Q rest (a.put o.dst (.slice A (xs.length + 1) c)) w') : wpList P ops Q (o :: rest) a w := by
  refine wpList_plain hgd fun K hK => ?_
  obtain ⟨A, c, w', hrun, h2, h3, h4⟩ := exec_append1 (P := P) s x t ho e z bytes ht hinfo hzs hsz henc h1 base v xs hs hown B y hx hnews hlen hbytes hbase
  unfold Oper.wp
  rw [hrun]
  exact hK _ _ (h A c w' h2 h3 h4)
end Go.Proofs.YtaiibchadlaifaaGreatDoor

namespace Go.Proofs.YtaiibchadlaifaaGreatDoor
open Go.RowKit Go.Shelf
attribute [local go_sem] Oper.semAt_some

/-- A network, all of whose memory lies below N; what turns no block below N but the flows' own leaves it as it lay. -/
structure Net (N n : Nat) (W : World) (P FB AB : Nat) (A : Option Addr) (c : Nat) (l : List Edge) (F : List Int) : Prop where
  net : FNet W P FB A c l F
  a : W.cell? ⟨P, 2, none⟩ = some (.slice (some ⟨AB, 0, none⟩) n n)
  hP : P < N
  hPF : P ≠ FB
  hF : FB < N
  hA : AB < N
  hAF : AB ≠ FB
  hN : N ≤ W.heap.size
  erd : ∀ W', BelowX N FB W W' → Rd kEdge W' A l
  adj : ∀ v : Nat, v < n → ∃ B cB, W.cell? ⟨AB, v, none⟩ = some (.slice B (adjL l v).length cB) ∧ ∀ W', BelowX N FB W W' → Rd kI W' B ((adjL l v).map Int.ofNat)

theorem Net.keep {N n : Nat} {W W' : World} {P FB AB : Nat} {A : Option Addr} {c : Nat} {l : List Edge} {F F' : List Int} (h : Net N n W P FB AB A c l F) (k : BelowX N FB W W') (hb : W'.heap[FB]? = some (.cells (F'.map (Value.int .i64)).toArray 3 (0, 0))) (hl : F'.length = l.length) : Net N n W' P FB AB A c l F' where
  net := ⟨(k.cell (p := ⟨P, 0, none⟩) h.hP h.hPF).trans h.net.e, (k.cell (p := ⟨P, 1, none⟩) h.hP h.hPF).trans h.net.f, hb, hl, h.erd _ k⟩
  a := (k.cell (p := ⟨P, 2, none⟩) h.hP h.hPF).trans h.a
  hP := h.hP
  hPF := h.hPF
  hF := h.hF
  hA := h.hA
  hAF := h.hAF
  hN := Nat.le_trans h.hN k.size
  erd := fun W2 k2 => h.erd _ (k.trans k2)
  adj := fun v hv => by
    obtain ⟨B, cB, h1, h2⟩ := h.adj v hv
    exact ⟨B, cB, (k.cell (p := ⟨AB, v, none⟩) h.hA h.hAF).trans h1, fun W2 k2 => h2 _ (k.trans k2)⟩
theorem Net.below {N n : Nat} {W W' : World} {P FB AB : Nat} {A : Option Addr} {c : Nat} {l : List Edge} {F : List Int} (h : Net N n W P FB AB A c l F) (k : Below N W W') : Net N n W' P FB AB A c l F :=
  h.keep (.of_below k (Nat.le_refl _)) ((k.block FB h.hF).trans h.net.blk) h.net.len
theorem Net.push {N n : Nat} {W : World} {P FB AB : Nat} {A : Option Addr} {c : Nat} {l : List Edge} {F : List Int} (h : Net N n W P FB AB A c l F) (r : Nat) (d : Int) :
    Net N n (W.setCell ⟨FB, r / 2, none⟩ (.int .i64 ((F[r / 2]?).getD 0 + (if r % 2 = 0 then d else -d)))) P FB AB A c l (pushR F r d) := by
  refine h.keep (BelowX.set (p := ⟨FB, r / 2, none⟩) (BelowX.refl N FB W) (.inl rfl) _) ?_ (by rw [pushR_len]; exact h.net.len)
  rw [heap_setCell_same W FB _ _ _ _ h.net.blk]
  simp [pushR, List.map_set]
theorem mem_ints {xs : List Nat} {k : Nat} {x : Int} (h : (xs.map Int.ofNat)[k]? = some x) : ∃ r : Nat, xs[k]? = some r ∧ x = r := by
  rw [List.getElem?_map] at h
  cases e : xs[k]? with
  | none => rw [e] at h; cases h
  | some r => rw [e] at h; exact ⟨r, rfl, (Option.some.inj h).symm⟩
theorem adjL_le (l : List Edge) (v : Int) : (adjL l v).length ≤ 2 * l.length := by
  unfold adjL
  exact Nat.le_trans (List.length_filter_le _ _) (by simp)

/-- A usable residual edge of a node. -/
abbrev ResP (l : List Edge) (F : List Int) (v : Int) := { r : Nat // r < 2 * l.length ∧ begR l r = v ∧ 0 < capR l F r }
def useTo (l : List Edge) (F : List Int) (v : Int) (k : Nat) : Nat := (((adjL l v).take k).filter fun r => decide (0 < capR l F r)).length
theorem useTo_get {l : List Edge} {F : List Int} {v : Int} {k r : Nat} (h : (adjL l v)[k]? = some r) : (0 < capR l F r → useTo l F v (k + 1) = useTo l F v k + 1 ∧ (useL l F v)[useTo l F v k]? = some r) ∧ (¬ 0 < capR l F r → useTo l F v (k + 1) = useTo l F v k) := by
  unfold useTo useL
  rw [take_snoc_get h, List.filter_append, List.length_append]
  refine ⟨fun h0 => ⟨by simp [h0], ?_⟩, fun h0 => by simp [h0]⟩
  have e : adjL l v = (adjL l v).take k ++ r :: (adjL l v).drop (k + 1) := by
    have hk := (List.getElem?_eq_some_iff.1 h).1
    have h2 := (List.getElem?_eq_some_iff.1 h).2
    rw [← h2, List.getElem_cons_drop, List.take_append_drop]
  conv => lhs; arg 1; rw [e]
  rw [List.filter_append, List.filter_cons, if_pos (by simpa using h0), List.getElem?_append_right (Nat.le_refl _), Nat.sub_self]
  rfl
theorem useTo_all (l : List Edge) (F : List Int) (v : Int) : useTo l F v (adjL l v).length = (useL l F v).length := by
  unfold useTo useL; rw [List.take_length]

abbrev netS : List TypeId := [140]

set_option maxRecDepth 100000 in
set_option maxHeartbeats 4000000 in
theorem usable_stops (n : Nat) (hn : 2 ≤ n) (Bw Bn N n₁ nn : Nat) (P FB AB : Nat) (A : Option Addr) (c : Nat) (l : List Edge) (F : List Int) (v : Nat) (hv : v < nn) (ls : List (ResP l F v)) (hls : ls.map (·.1) = useL l F v) (w : World)
    (net : Net N nn w P FB AB A c l F) (ok : okF l F) (m30 : ∀ e, e ∈ l → e.m ≤ 1073741824) (hnn : nn ≤ 4096) (hll : l.length ≤ 65536) (hn0 : N ≤ n₁) (hn1 : n₁ ≤ Bw) (hBn : Bn < w.heap.size)
    (hcw : w.heap[Bw]? = some (.cells #[.pointer (some ⟨P, 0, none⟩)] 140 (0, 0))) (hcn : w.cell? ⟨Bn, 0, none⟩ = some (.int .i64 v)) :
    SeqStopsK F0 n Tryz.prog 178 #[.pointer (some ⟨Bw, 0, none⟩), .pointer (some ⟨Bn, 0, none⟩)] (fun x : ResP l F v => #[.int .i64 (x.1 : Int), .int .i64 (endR l x.1)]) (KP netS N n₁) (fun ys => ys = ls) (fun pre => ∃ k, k ≤ ls.length ∧ pre = ls.take k) ls.length w := fun L J Jx W hW hJ hJx hY h0 => by
  have netW := net.below (hW.mono net.hN)
  have hBw := (Array.getElem?_eq_some_iff.1 hcw).1
  have hn' : 1 ≤ n := by omega
  have hcw' := (hW.block Bw hBw).trans hcw
  have hcn' : W.cell? ⟨Bn, 0, none⟩ = some (.int .i64 v) := (hW.cell (p := ⟨Bn, 0, none⟩) hBn).trans hcn
  have hnW : n₁ ≤ W.heap.size := by have := hW.size; omega
  have hBwW : Bw < W.heap.size := by have := hW.size; omega
  clear hW hcw hcn net hBw hBn
  obtain ⟨B, cB, hab, hrd⟩ := netW.adj v hv
  have hpa := netW.a
  have hcw0 : W.cell? ⟨Bw, 0, none⟩ = some (.pointer (some ⟨P, 0, none⟩)) := by rw [blk_cell hcw']; rfl
  have hvn : (v : Int) < nn := by omega
  have hlen := adjL_le l v
  refine callsIn_of_wp Tryz.func178 rfl trivial ?_ rfl
  simp only [Tryz.ntmps178, List.size_toArray, List.length_cons, List.length_nil, Nat.reduceAdd, Nat.reduceSub, Array.replicate_succ, Array.replicate_zero, List.push_toArray, List.append_toArray, List.nil_append, List.cons_append]
  have hull : ls.length = (useL l F v).length := by rw [← hls, List.length_map]
  gi_wp2
  gi_region
  gi_wp2
  have h0d : J [] W.drew := hJ _ _ _ none h0 ⟨rfl, rfl, rfl, Nat.le_refl _, fun _ _ _ => rfl⟩ (fun r e => by cases e)
  clear h0 hab hpa hcn'
  gi_loopw [14] (fun i wr => ∃ k : Nat, k ≤ (adjL l v).length ∧ i = .int .i64 k ∧ J (ls.take (useTo l F v k)) wr ∧ KP netS N n₁ W wr) (fun i _ => (adjL l v).length - (intOf i).toNat)
  case atStart => exact ⟨0, Nat.zero_le _, rfl, h0d, ⟨(Below.refl _ _).drew, (KeepT.refl _ _ _).drew⟩⟩
  case round =>
    obtain ⟨k, hk, rfl, hJs, hkp⟩ := hrel
    by_cases hlt : k < (adjL l v).length
    · obtain ⟨x, b, off, hx0, rfl, hb, f0⟩ := kI_get (hrd wr (.of_below hkp.1 (Nat.le_refl _))) (k := k) (by rw [List.length_map]; exact hlt)
      obtain ⟨r, hr, rfl⟩ := mem_ints hx0.out
      obtain ⟨hr2, hbeg⟩ := mem_adjL.1 (List.mem_of_getElem? hr)
      have fnet := (netW.below hkp.1).net
      have hcwr : wr.cell? ⟨Bw, 0, none⟩ = some (.pointer (some ⟨P, 0, none⟩)) := by rw [blk_cell (hkp.2.same Bw _ _ _ (by simp) hn1 hcw')]; rfl
      have hcap := flow_capacity_c wr P FB A c l F r fnet ok m30 hr2
      obtain ⟨u1, u2⟩ := useTo_get (F := F) hr
      have hrI : (r : Int) < 131072 := by omega
      have hut := useTo_all l F v
      obtain ⟨q, hq⟩ : ∃ q, q = capR l F r := ⟨_, rfl⟩
      rw [← hq] at hcap
      by_cases hc : 0 < capR l F r
      · obtain ⟨u3, u4⟩ := u1 hc
        rw [← hls, List.getElem?_map] at u4
        obtain ⟨x, hx, hxr⟩ : ∃ x, ls[useTo l F v k]? = some x ∧ x.1 = r := by
          cases e : ls[useTo l F v k]? with
          | none => rw [e] at u4; cases u4
          | some x => rw [e] at u4; exact ⟨x, rfl, Option.some.inj u4⟩
        have hts : Hid (ls.take (useTo l F v (k + 1)) = ls.take (useTo l F v k) ++ [x]) := by show _ = _; rw [u3]; exact take_snoc_get hx
        have hxl := (List.getElem?_eq_some_iff.1 hx).1
        have hc : 0 < q := by omega
        have hul : useTo l F v (k + 1) ≤ ls.length := by omega
        have hend := fun m => flow_end_c (wr.drewN m) P FB A c l F r ⟨fnet.e, fnet.f, fnet.blk, fnet.len, fnet.rd.below (below_drewN _ _)⟩ hr2
        obtain ⟨E, hE⟩ : ∃ E, E = endR l r := ⟨_, rfl⟩
        rw [← hE] at hend
        have hYx := fun m => hY _ x (wr.drewN m) (hJ _ _ _ none hJs ⟨rfl, rfl, rfl, Nat.le_refl _, fun _ _ _ => rfl⟩ (fun r e => by cases e)) (by rw [List.length_take]; omega)
        rw [hxr, ← hE] at hYx
        clear hY hE hq u1 u2 u3 u4 hx hxr hull hut hls hr hbeg hrd
        gi_wp2_with (first
          | (refine ⟨trivial, ?_⟩; gi_at_call 90; refine (callsIn_wide.2 hcap).mono ?_; rintro e w1 ⟨rfl, m, rfl⟩; obtain ⟨fn, tmps, assign, body, hy, hR⟩ := hYx m)
          | (refine ⟨trivial, ?_⟩; gi_at_call 88; refine (callsIn_wide.2 (hend _)).mono ?_; rintro e w1 ⟨rfl, rfl⟩))
        gi_wp2
        refine hR.mono ?_
        rintro e W3 (⟨rfl, hJ3, hk3⟩ | ⟨rfl, hJx3⟩)
        · gi_wp2
          go_roundw
          case rel => exact ⟨k + 1, hlt, by go_num, by rw [hts.out]; exact hJ3, kp_t (kp_t hkp ⟨below_drewN2 _ _ _, .of_below (below_drewN _ _)⟩) hk3⟩
          case measure => simp [intOf]; omega
        · gi_wp2
          refine bodyPost_ret (results_none rfl _ _ _) rfl ?_
          exact ⟨⟨_, rfl⟩, .inr ⟨_, ⟨useTo l F v (k + 1), hul, hts.out.symm⟩, hJx3⟩⟩
      · have u3 := u2 hc
        have hJn : Hid (∀ m, J (ls.take (useTo l F v (k + 1))) (wr.drewN m)) := fun m => by rw [u3]; exact hJ _ _ _ none hJs ⟨rfl, rfl, rfl, Nat.le_refl _, fun _ _ _ => rfl⟩ (fun r e => by cases e)
        have hc : decide (0 < q) = false := decide_eq_false (by omega)
        clear hY hq u1 u2 u3 hull hut hls hr hbeg hrd
        gi_wp2_with (refine ⟨trivial, ?_⟩; gi_at_call 90; refine (callsIn_wide.2 hcap).mono ?_; rintro e w1 ⟨rfl, m, rfl⟩)
        refine ⟨trivial, ?_⟩
        rename_i aK
        apply aK
        gi_step
        refine ⟨fun _ _ => trivial, ?_⟩
        gi_wp2
        go_roundw
        case rel => exact ⟨k + 1, hlt, by go_num, hJn.out _, kp_t hkp ⟨below_drewN2 _ _ _, .of_below (below_drewN _ _)⟩⟩
        case measure => simp [intOf]; omega
    · obtain rfl : k = (adjL l v).length := by omega
      rw [useTo_all, ← hull, List.take_length] at hJs
      gi_wp2
      go_end0
      exact ⟨⟨_, rfl⟩, .inl ⟨_, rfl, hJs⟩⟩

set_option maxHeartbeats 1000000 in
theorem usable_c (P v : Nat) (w : World) :
    Calls Tryz.prog 142 #[.pointer (some ⟨P, 0, none⟩), .int .i64 v] w fun e w' => e = .returned (.func (.func 178) #[] #[.pointer (some ⟨w.heap.size, 0, none⟩), .pointer (some ⟨w.heap.size + 1, 0, none⟩)]) ∧ w' = (w.alloc (.cells #[.pointer (some ⟨P, 0, none⟩)] 140)).alloc (.cells #[.int .i64 v] 3) := by
  go_enter Tryz.func142, Tryz.ntmps142
  go_wp2
  go_ret
  exact ⟨rfl, rfl⟩
end Go.Proofs.YtaiibchadlaifaaGreatDoor

namespace Go.Proofs.YtaiibchadlaifaaGreatDoor
open Go.RowKit Go.Shelf

theorem OwnF.apart {α : Type} {enc : α → List Value} {sz : Nat} {e base : Nat} {w w' : World} {v : Value} {xs : List α} {row : Option Nat} (h : OwnF enc sz e base w v xs) (hg : w.grownBy w' row) (hne : v.ownBlock = none ∨ v.ownBlock ≠ row) : OwnF enc sz e base w' v xs :=
  World.ownsRow.kept h hg hne

/-- The rows of residual edges while they grow: V their values, X what they hold. -/
structure AdjIn (base AB n : Nat) (W : World) (V : Nat → Value) (X : Nat → List Int) : Prop where
  hA : AB < base
  hb : base ≤ W.heap.size
  cell : ∀ v, v < n → W.cell? ⟨AB, v, none⟩ = some (V v)
  froz : ∀ v, W.frozen? ⟨AB, v, none⟩ = false
  own : ∀ v, v < n → OwnF encI 1 3 base W (V v) (X v)
  apart : ∀ v u g, v < n → u < n → v ≠ u → (V v).ownBlock = some g → (V u).ownBlock ≠ some g

theorem AdjIn.below {base AB n : Nat} {W W' : World} {V : Nat → Value} {X : Nat → List Int} (h : AdjIn base AB n W V X) (k : Below W.heap.size W W') : AdjIn base AB n W' V X where
  hA := h.hA
  hb := Nat.le_trans h.hb k.size
  cell := fun v hv => (k.cell (p := ⟨AB, v, none⟩) (by have := h.hA; have := h.hb; simp; omega)).trans (h.cell v hv)
  froz := fun v => (k.frozen (p := ⟨AB, v, none⟩) (by have := h.hA; have := h.hb; simp; omega)).trans (h.froz v)
  own := fun v hv => (h.own v hv).below k
  apart := h.apart

theorem AdjIn.step {base AB n : Nat} {W W' : World} {V : Nat → Value} {X : Nat → List Int} (h : AdjIn base AB n W V X) {u : Nat} {r : Int} {v' : Value} (hu : u < n) (hown : OwnF encI 1 3 base W' v' (X u ++ [r])) (hg : W.grownBy W' (V u).ownBlock)
    (hat : v'.ownBlock = (V u).ownBlock ∨ v'.ownBlock = some W.heap.size) :
    AdjIn base AB n (W'.setCell ⟨AB, u, none⟩ v') (fun v => if v = u then v' else V v) (fun v => if v = u then X u ++ [r] else X v) := by
  have hA := h.hA
  have hb := h.hb
  have hrow : ∀ g, (V u).ownBlock = some g → base ≤ g ∧ g < W.heap.size := fun g hg' => World.ownsRow.lt (h.own u hu) g hg'
  have hAB : W'.heap[AB]? = W.heap[AB]? := hg.block AB (by omega) (fun e => by have := hrow AB e.symm; omega)
  have hcell : ∀ v, W'.cell? ⟨AB, v, none⟩ = W.cell? ⟨AB, v, none⟩ := fun v => World.cell?_of_block hAB
  refine ⟨hA, ?_, ?_, ?_, ?_, ?_⟩
  · show base ≤ (W'.heap.modify _ _).size
    rw [Array.size_modify]; exact Nat.le_trans hb hg.size
  · intro v hv
    by_cases e : v = u
    · subst e
      simp only [if_true]
      exact World.cell?_setCell_same' _ _ _ (by rw [hcell, h.cell v hv]; rfl)
    · simp only [e, if_false]
      rw [World.cell?_setCell_other (h := by intro q; injection q with _ q2 _; exact e q2.symm), hcell, h.cell v hv]
  · intro v
    rw [World.frozen?_setCell]
    have := h.froz v
    unfold World.frozen? at this ⊢
    rw [show W'.heap[(⟨AB, v, none⟩ : Addr).block]? = W.heap[(⟨AB, v, none⟩ : Addr).block]? from hAB]
    exact this
  · intro v hv
    by_cases e : v = u
    · subst e
      simp only [if_true]
      exact ownsRow_setCell_below hown (by simpa using hA) _
    · simp only [e, if_false]
      refine ownsRow_setCell_below (OwnF.apart (h.own v hv) hg ?_) (by simpa using hA) _
      cases hvb : (V v).ownBlock with
      | none => exact .inl rfl
      | some g => exact .inr (fun q => h.apart v u g hv hu e hvb q.symm)
  · intro v w' g hv hw hne hvg
    have hlt : ∀ x, x < n → ∀ g, (V x).ownBlock = some g → g < W.heap.size := fun x hx g hg' => (World.ownsRow.lt (h.own x hx) g hg').2
    by_cases e : v = u
    · subst e
      simp only [if_true] at hvg
      simp only [show ¬ w' = v from fun q => hne q.symm, if_false]
      intro q
      rcases hat with hat | hat
      · rw [hvg] at hat; exact h.apart v w' g hv hw hne hat.symm q
      · rw [hvg] at hat; cases hat; have := hlt w' hw _ q; omega
    · simp only [e, if_false] at hvg
      by_cases e2 : w' = u
      · subst e2
        simp only [if_true]
        intro q
        rcases hat with hat | hat
        · rw [q] at hat; exact h.apart v w' g hv hw hne hvg hat.symm
        · rw [q] at hat; cases hat; have := hlt v hv _ hvg; omega
      · simp only [e2, if_false]
        exact h.apart v w' g hv hw hne hvg

/-- The residual edges of a node, the first k edges looked at. -/
def adjTo (l : List Edge) (v : Int) (k : Nat) : List Nat := (List.range (2 * k)).filter fun r => decide (begR l r = v)
theorem adjTo_all (l : List Edge) (v : Int) : adjTo l v l.length = adjL l v := rfl
theorem adjTo_succ {l : List Edge} {k : Nat} {x : Edge} (h : l[k]? = some x) (v : Int) : adjTo l v (k + 1) = adjTo l v k ++ (if x.f = v then [2 * k] else []) ++ (if x.t = v then [2 * k + 1] else []) := by
  unfold adjTo
  rw [show 2 * (k + 1) = 2 * k + 1 + 1 by omega, List.range_succ, List.range_succ, List.filter_append, List.filter_append]
  have e1 : begR l (2 * k) = x.f := by unfold begR; rw [if_pos (by omega), show 2 * k / 2 = k by omega, h]; rfl
  have e2 : begR l (2 * k + 1) = x.t := by unfold begR; rw [if_neg (by omega), show (2 * k + 1) / 2 = k by omega, h]; rfl
  simp only [List.filter_cons, List.filter_nil, e1, e2, decide_eq_true_eq]
theorem adjTo_le (l : List Edge) (v : Int) (k : Nat) : (adjTo l v k).length ≤ 2 * k := by
  unfold adjTo; exact Nat.le_trans (List.length_filter_le _ _) (by simp)
end Go.Proofs.YtaiibchadlaifaaGreatDoor

namespace Go.Proofs.YtaiibchadlaifaaGreatDoor
open Go.RowKit Go.Shelf

/-- The slice ⟨g, off⟩, q.length, cap reads as q; block g is the call's own. -/
structure QRow (base : Nat) (W : World) (g off cap : Nat) (q : List Int) : Prop where
  hg : base ≤ g
  blk : ∃ cur : Array Value, W.heap[g]? = some (.cells cur 3 (0, 0)) ∧ off + cap ≤ cur.size ∧ ∀ (i : Nat) (x : Int), q[i]? = some x → cur[off + i]? = some (.int .i64 x)
  len : q.length ≤ cap
  max : cap ≤ 9223372036854775807

theorem QRow.lt {base : Nat} {W : World} {g off cap : Nat} {q : List Int} (h : QRow base W g off cap q) : g < W.heap.size := by
  obtain ⟨cur, h1, _⟩ := h.blk
  exact (Array.getElem?_eq_some_iff.1 h1).1
theorem QRow.keep {base : Nat} {W W' : World} {g off cap : Nat} {q : List Int} (h : QRow base W g off cap q) (k : W'.heap[g]? = W.heap[g]?) : QRow base W' g off cap q := by
  obtain ⟨cur, h1, h2⟩ := h.blk
  exact ⟨h.hg, ⟨cur, k.trans h1, h2⟩, h.len, h.max⟩
theorem QRow.below {base : Nat} {W W' : World} {g off cap : Nat} {q : List Int} (h : QRow base W g off cap q) (k : Below W.heap.size W W') : QRow base W' g off cap q := h.keep (k.block _ h.lt)
theorem QRow.row {base : Nat} {W : World} {g off cap : Nat} {q : List Int} (h : QRow base W g off cap q) : ∃ cur f, W.heap[g]? = some (Obj.cells cur 3 f) := by
  obtain ⟨cur, h1, _⟩ := h.blk
  exact ⟨cur, _, h1⟩
theorem QRow.cell {base : Nat} {W : World} {g off cap : Nat} {q : List Int} (h : QRow base W g off cap q) {i : Nat} {x : Int} (hx : q[i]? = some x) : W.cell? ⟨g, off + i, none⟩ = some (.int .i64 x) := by
  obtain ⟨cur, h1, h2, h3⟩ := h.blk
  rw [blk_cell h1]; exact h3 i x hx
theorem QRow.tail {base : Nat} {W : World} {g off cap : Nat} {x : Int} {q : List Int} (h : QRow base W g off cap (x :: q)) : QRow base W g (if cap = 1 then off else off + 1) (cap - 1) q := by
  obtain ⟨cur, h1, h2, h3⟩ := h.blk
  have hl := h.len
  have hm := h.max
  simp only [List.length_cons] at hl
  refine ⟨h.hg, ⟨cur, h1, ?_, fun i y hy => ?_⟩, by omega, by omega⟩
  · split <;> omega
  · have hi := (List.getElem?_eq_some_iff.1 hy).1
    rw [if_neg (by omega)]
    have := h3 (i + 1) y (by simpa using hy)
    rw [show off + 1 + i = off + (i + 1) by omega]; exact this
theorem QRow.one {base : Nat} {W : World} (hb : base ≤ W.heap.size) (x : Int) : QRow base (W.alloc (.cells #[.int .i64 x] 3)) W.heap.size 0 1 [x] :=
  ⟨hb, ⟨_, World.alloc_heap_new W _, by simp, fun i y hy => by cases i with
    | zero => simp at hy; subst hy; rfl
    | succ i => simp at hy⟩, by simp, by omega⟩

theorem int_info : (Tryz.prog.info? 3).map (fun i => (i.zero, i.size, i.bytes)) = some (some (.int .i64 0), 1, 8) := by kernel_rfl

/-- 'append(q, y)'. -/
theorem run_appendQ {base : Nat} {W : World} {ty : TypeId} {g off cap : Nat} {q : List Int} (hq : QRow base W g off cap q) (hb : base ≤ W.heap.size) (B : Nat) (y : Int) (hB : W.cell? ⟨B, 0, none⟩ = some (.int .i64 y)) (hlen : q.length < 1000000000) :
    ∃ g' off' cap' W', (Builtin.append_ #[34, 34] ty #[.slice (some ⟨g, off, none⟩) q.length cap, .slice (some ⟨B, 0, none⟩) 1 1]).run Tryz.prog W = .ok (.slice (some ⟨g', off', none⟩) (q.length + 1) cap') W' ∧ QRow base W' g' off' cap' (q ++ [y]) ∧ W.grownBy W' (some g) ∧ (g' = g ∨ W.heap.size ≤ g') := by
  obtain ⟨i0, hi, hz0, hz1, hz2⟩ := info_parts int_info
  obtain ⟨cur, h1, h2, h3⟩ := hq.blk
  have hl := hq.len
  have hmx := hq.max
  have hone : ∀ u ∈ ([.int .i64 y] : List Value), u.oneCell' = true := by intro u hu; rw [List.mem_singleton.1 hu]; rfl
  have hnews : ∀ (j : Nat) (u : Value), ([.int .i64 y] : List Value)[j]? = some u → W.cell? ((⟨B, 0, none⟩ : Addr).add j) = some u := by
    intro j u hj
    cases j with
    | zero => simp at hj; subst hj; exact hB
    | succ j => simp at hj
  by_cases hr : q.length + 1 ≤ cap
  · have hrun := run_append_room_cells (P := Tryz.prog) W 34 ty 3 i0 Tryz.underlying34 hi g off q.length cap ⟨B, 0, none⟩ 1 1 [.int .i64 y] (by rw [hz1]; rfl) hnews hone hr
      (fun j hj => by
        have : j = 0 := by simpa using hj
        subst this
        rw [hz1, blk_cell h1, Array.getElem?_eq_getElem (by omega)]; rfl) (fun j hj => blk_frozen h1 _)
    rw [hz1, Nat.mul_one] at hrun
    refine ⟨g, off, cap, _, hrun, ⟨hq.hg, ⟨cur.setIfInBounds (off + q.length) (.int .i64 y), ?_, by simpa using h2, ?_⟩, by simpa using hr, hmx⟩, ?_, .inl rfl⟩
    · show (W.setCell ⟨g, off + q.length, none⟩ _).heap[g]? = _
      exact heap_setCell_same W g _ _ _ _ h1
    · intro i x hx
      by_cases hil : i < q.length
      · rw [List.getElem?_append_left hil] at hx
        rw [Array.getElem?_setIfInBounds_ne (by omega)]; exact h3 i x hx
      · rw [List.getElem?_append_right (by omega)] at hx
        have : i = q.length ∧ x = y := by
          cases hk : i - q.length with
          | zero => rw [hk] at hx; simp at hx; exact ⟨by omega, hx.symm⟩
          | succ k => rw [hk] at hx; simp at hx
        obtain ⟨rfl, rfl⟩ := this
        simp [Array.getElem?_setIfInBounds]; omega
    · exact ⟨rfl, rfl, rfl, by show W.heap.size ≤ (W.heap.modify _ _).size; rw [Array.size_modify]; exact Nat.le_refl _, fun k hk hn => Below.heap_setCell W ⟨g, off + q.length, none⟩ _ k (by intro e; apply hn; rw [e])⟩
  · have hcl : cap = q.length := by omega
    obtain ⟨v', w', hrun, r1, r2⟩ := run_append_arg_grows (P := Tryz.prog) W 34 ty 3 i0 (.int .i64 0) 1 8 Tryz.underlying34 hi hz0 hz1 hz2 rfl (by decide) ⟨g, off, none⟩ q.length cap (q.map (Value.int .i64)) (by simp)
      (fun j u hj => by
        rw [Addr.add_lit]
        rw [List.getElem?_map] at hj
        cases hqj : q[j]? with
        | none => rw [hqj] at hj; cases hj
        | some x => rw [hqj] at hj; cases hj; exact hq.cell hqj) ⟨B, 0, none⟩ 1 1 [.int .i64 y] rfl hnews (by omega) (by unfold maxLen; omega) (by omega)
    obtain ⟨hlen2, ⟨rfl, h0⟩ | ⟨g', cap', cur', rfl, hbg, hg', hnc, hcm, hcs, htake⟩⟩ := r1
    · omega
    · refine ⟨g', 0, cap', w', hrun, ⟨by omega, ⟨cur', hg', by omega, fun i x hx => ?_⟩, by simpa using hnc, by unfold maxLen at hcm; omega⟩, ⟨r2.os, r2.tape, r2.output, r2.size, fun k hk _ => r2.block k hk (by simp)⟩, .inr hbg⟩
      have hi : i < q.length + 1 := by have := (List.getElem?_eq_some_iff.1 hx).1; simpa using this
      have h5 : (q.map (Value.int .i64) ++ [Value.int .i64 y])[i]? = some (.int .i64 x) := by
        rw [show q.map (Value.int .i64) ++ [Value.int .i64 y] = (q ++ [y]).map (Value.int .i64) by simp, List.getElem?_map, hx]; rfl
      rw [← htake, List.getElem?_take, if_pos (by omega)] at h5
      rw [Nat.zero_add]
      simpa using h5

theorem wpListIn_appendQ {F : Fence} {n : Nat} {ops : Array Oper} {rest : List Oper} {o : Oper} {a : Act} {Q : Exit → Act → World → Prop} {W : World} (hgd : o.guard = none) (s x : Operand)
    (ho : o.op = .call { callee := .builtin .append, args := #[s, x], argTypes := #[34, 34] }) {base g off cap : Nat} {q : List Int} (hq : QRow base W g off cap q) (hb : base ≤ W.heap.size)
    (hs : a.eval s = .slice (some ⟨g, off, none⟩) q.length cap) (B : Nat) (y : Int) (hx : a.eval x = .slice (some ⟨B, 0, none⟩) 1 1) (hB : W.cell? ⟨B, 0, none⟩ = some (.int .i64 y)) (hlen : q.length < 1000000000)
    (h : ∀ g' off' cap' W', QRow base W' g' off' cap' (q ++ [y]) → W.grownBy W' (some g) → (g' = g ∨ W.heap.size ≤ g') → wpListIn F n Tryz.prog ops Q rest (a.put o.dst (.slice (some ⟨g', off', none⟩) (q.length + 1) cap')) W') : wpListIn F n Tryz.prog ops Q (o :: rest) a W := by
  refine wpListIn_plain hgd fun K hK' => ?_
  obtain ⟨g', off', cap', W', hrun, r1, r2, r3⟩ := run_appendQ (ty := o.type) hq hb B y hB hlen
  unfold Oper.wpIn
  refine ⟨?_, ?_⟩
  · simp [Oper.about, ho, resolve, Target.leads, Sem.run_pure]
  · rw [Oper.semAt_plain F _ _ (by rw [ho]; intro c hc'; cases hc')]
    simp [execOp, ho, resolve, invoke, builtin, hs, hx, hrun, Result.andThen]
    exact hK' _ _ (h g' off' cap' W' r1 r2 r3)
end Go.Proofs.YtaiibchadlaifaaGreatDoor

namespace Go.Proofs.YtaiibchadlaifaaGreatDoor
open Go.RowKit Go.Shelf

theorem int_info0 : (Tryz.prog.info? 3).map (fun i => (i.zero, i.size, i.bytes)) = some (some (.int .i64 0), 1, 8) := by kernel_rfl
theorem ints_info0 : (Tryz.prog.info? 34).map (fun i => (i.zero, i.size, i.bytes)) = some (some (.slice none 0 0), 1, 24) := by kernel_rfl

theorem made_get (z : Value) (n v : Nat) (hv : v < n) : (madeCells #[z] n)[v]? = some z := by
  have := toList_madeCells_one z n
  rw [← Array.getElem?_toList, this, List.getElem?_replicate, if_pos hv]
def EdgesTo (l : List Edge) (k : Nat) (v : Nat) : List Int := (adjTo l v k).map Int.ofNat
theorem EdgesTo_le (l : List Edge) (k v : Nat) : (EdgesTo l k v).length ≤ 2 * k := by unfold EdgesTo; rw [List.length_map]; exact adjTo_le _ _ _
theorem EdgesTo_succ {l : List Edge} {k f t : Nat} {m : Int} (h : l[k]? = some ⟨f, t, m⟩) (hne : f ≠ t) : (fun v => if v = t then (fun v => if v = f then EdgesTo l k f ++ [(2 * k : Int)] else EdgesTo l k v) t ++ [(2 * k + 1 : Int)] else (fun v => if v = f then EdgesTo l k f ++ [(2 * k : Int)] else EdgesTo l k v) v) = EdgesTo l (k + 1) := by
  funext v
  dsimp only
  unfold EdgesTo
  rw [adjTo_succ h]
  dsimp only
  by_cases e1 : v = f
  · by_cases e2 : v = t
    · exact absurd (e1.symm.trans e2) hne
    · subst e1
      have e3 : ¬ ((t : Int) = v) := by omega
      simp [e2, e3]
  · by_cases e2 : v = t
    · subst e2
      have e3 : ¬ ((f : Int) = v) := by omega
      simp [e1, e3]
    · have e3 : ¬ ((f : Int) = v) := by omega
      have e4 : ¬ ((t : Int) = v) := by omega
      simp [e1, e2, e3, e4]

theorem AdjIn.keep3 {base AB n : Nat} {w2 w3 : World} {V : Nat → Value} {X : Nat → List Int} (h : AdjIn base AB n w2 V X) {u B7 : Nat} (hu : u < n) {cs : Array Value} {T : TypeId} (hb7 : w2.heap[B7]? = some (.cells cs T (0, 0))) (hT : T ≠ 3) {o : Obj} (hg : (w2.alloc o).drew.grownBy w3 (V u).ownBlock) :
    ∀ b, b < w2.heap.size → (b < base ∨ b = B7) → w3.heap[b]? = w2.heap[b]? := fun b hb hor =>
  (hg.block b (by show b < (w2.alloc o).heap.size; rw [World.size_alloc]; omega) (fun e => by
    obtain ⟨h1, cur, f, h2⟩ := (h.own u hu).row b e.symm
    rcases hor with h3 | rfl
    · omega
    · rw [hb7] at h2; injection h2 with h2; injection h2 with _ h2; exact hT h2)).trans (Below.heap_alloc w2 o b hb)

set_option maxRecDepth 100000 in
set_option maxHeartbeats 16000000 in
theorem newNetwork_c (n : Nat) (l : List Edge) (A : Option Addr) (c : Nat) (w : World) (h : Rd kEdge w A l) (hn : n ≤ 4096) (hl : l.length ≤ 65536) (hin : nodesIn n l) (hloop : ∀ e, e ∈ l → e.f ≠ e.t) :
    Calls Tryz.prog 85 #[.int .i64 n, .slice A l.length c] w fun e w' => ∃ P FB AB, e = .returned (.pointer (some ⟨P, 0, none⟩)) ∧ Net w'.heap.size n w' P FB AB A c l (List.replicate l.length 0) ∧ w.heap.size ≤ P ∧ w.heap.size ≤ FB ∧ w.heap.size ≤ AB ∧ Below w.heap.size w w' := by
  have hm1 := run_make_row' (P := Tryz.prog) 34 3 (.int .i64 0) 8 Tryz.underlying34 int_info0 rfl .i64 .i64 l.length (by omega) (by omega)
  have hm2 := run_make_row' (P := Tryz.prog) 143 34 (.slice none 0 0) 24 Tryz.underlying143 ints_info0 rfl .i64 .i64 n (by omega) (by omega)
  go_enter Tryz.func85, Tryz.ntmps85
  go_upto_region 1 with fail
  go_cut [5] (fun s5 wx => ∃ P FB AB : Nat, s5 = .pointer (some ⟨P, 0, none⟩) ∧ wx.heap[P]? = some (.cells #[.slice A l.length c, .slice (some ⟨FB, 0, none⟩) l.length l.length, .slice (some ⟨AB, 0, none⟩) n n] 145 (0, 0)) ∧ wx.heap[FB]? = some (.cells (madeCells #[.int .i64 0] l.length) 3 (0, 0)) ∧ wx.heap[AB]? = some (.cells (madeCells #[.slice none 0 0] n) 34 (0, 0)) ∧ w.heap.size ≤ P ∧ w.heap.size ≤ FB ∧ w.heap.size ≤ AB ∧ AB ≠ FB ∧ Below w.heap.size w wx)
  case first =>
    go_region
    all_goals (go_wp2_with fail; go_meet)
    all_goals first
      | exact ⟨w.heap.size + 1 + 1, w.heap.size, w.heap.size + 1, rfl, alloc3_blk2 w _ _ _, alloc3_blk0 w _ _ _, alloc3_blk1 w _ _ _, by omega, by omega, by omega, by omega, (below3 w _ _ _).drew⟩
      | exact ⟨w.heap.size + 1 + 1, w.heap.size + 1, w.heap.size, rfl, alloc3_blk2 w _ _ _, alloc3_blk1 w _ _ _, alloc3_blk0 w _ _ _, by omega, by omega, by omega, by omega, (below3 w _ _ _).drew⟩
  case rest =>
    obtain ⟨P, FB, AB, rfl, hP, hF, hA, gP, gF, gA, hne, hB⟩ := hcut
    clear hm1 hm2
    have hPA : P ≠ AB := by rintro rfl; rw [hP] at hA; injection hA with hA; injection hA with _ hA; cases hA
    have hPF : P ≠ FB := by rintro rfl; rw [hP] at hF; injection hF with hF; injection hF with _ hF; cases hF
    have hPz := (Array.getElem?_eq_some_iff.1 hP).1
    have hFz := (Array.getElem?_eq_some_iff.1 hF).1
    have hAz := (Array.getElem?_eq_some_iff.1 hA).1
    have he0 : ∀ v, EdgesTo l 0 v = [] := fun v => by simp [EdgesTo, adjTo]
    have hst : AdjIn wc.heap.size AB n wc (fun _ => .slice none 0 0) (EdgesTo l 0) :=
      ⟨hAz, Nat.le_refl _, fun v hv => by rw [blk_cell hA]; exact made_get _ _ _ hv, fun v => blk_frozen hA v, fun v _ => by rw [he0 v]; exact OwnF.nil _ _ _ _ _, fun v u g _ _ _ e => by cases e⟩
    clear he0
    go_wp2_with fail
    go_loopw [18] (fun i wr => ∃ (k : Nat) (V : Nat → Value), k ≤ l.length ∧ i = .int .i64 k ∧ AdjIn wc.heap.size AB n wr V (EdgesTo l k) ∧ BelowX wc.heap.size AB wc wr) (fun i _ => l.length - (intOf i).toNat)
    case atStart => exact ⟨0, _, Nat.zero_le _, rfl, hst, BelowX.refl _ _ _⟩
    case round =>
      obtain ⟨k, V, hk, rfl, hadj, hX⟩ := hrel
      have hBr : Below w.heap.size w wr := hB.trans (hX.below hB.size gA)
      by_cases hlt : k < l.length
      · obtain ⟨x, b, off, hx, rfl, hb, f0, f1, f2⟩ := kEdge_get (h.below hBr) hlt
        obtain ⟨n1, n2, n3, n4⟩ := hin x (List.mem_of_getElem? hx.out)
        have hlx := hloop x (List.mem_of_getElem? hx.out)
        obtain ⟨xf, xt, xm⟩ := x
        dsimp only at *
        obtain ⟨u, rfl⟩ : ∃ u : Nat, xf = u := ⟨xf.toNat, by omega⟩
        obtain ⟨v, rfl⟩ : ∃ v : Nat, xt = v := ⟨xt.toNat, by omega⟩
        have hsX := hX.size
        have hadj1 : AdjIn wc.heap.size AB n (wr.alloc (.cells #[.int .i64 u, .int .i64 v, .int .i64 xm] 85)) V (EdgesTo l k) := hadj.below (below1 _ _)
        obtain ⟨A1, c1, hv1, _⟩ := (hadj1.own u (by omega)).rd encI_len
        have hab := hadj1.cell u (by omega)
        rw [hv1] at hab
        have hp2 : (wr.alloc (.cells #[.int .i64 u, .int .i64 v, .int .i64 xm] 85)).cell? ⟨P, 2, none⟩ = some (.slice (some ⟨AB, 0, none⟩) n n) := by
          rw [World.cell?_alloc_past _ _ _ (by omega), hX.cell (p := ⟨P, 2, none⟩) hPz hPA, blk_cell hP]; rfl
        have hb7 := World.alloc_heap_new wr (.cells #[.int .i64 u, .int .i64 v, .int .i64 xm] 85)
        have hX1 : BelowX wc.heap.size AB wc (wr.alloc (.cells #[.int .i64 u, .int .i64 v, .int .i64 xm] 85)) := hX.alloc hsX _
        have hz1 := World.size_alloc wr (.cells #[.int .i64 u, .int .i64 v, .int .i64 xm] 85)
        have hun : (u : Int) < n := by omega
        have hu0 : (0 : Int) ≤ u := by omega
        have hxH : Hid (l[k]? = some (⟨u, v, xm⟩ : Edge)) := hx
        have hk2 := hk
        clear hx hin hloop h hst hP hF hA hadj hX
        go_wp2_with fail
        have hwr1 : Hid (IntKind.i64.wrap (2 * (k : Int)) = 2 * k) := by show _ = _; simp [IntKind.wrap, IntKind.bits, IntKind.signed]; omega
        have hwr2 : Hid (IntKind.i64.wrap (2 * (k : Int) + 1) = 2 * k + 1) := by show _ = _; simp [IntKind.wrap, IntKind.bits, IntKind.signed]; omega
        generalize hw2 : wr.alloc (.cells #[.int .i64 u, .int .i64 v, .int .i64 xm] 85) = w2 at *
        clear hw2
        generalize wr.heap.size = B7 at *
        have hz2 : B7 < w2.heap.size := by omega
        clear hz1
        have h7 : w2.cell? ⟨B7, 0, none⟩ = some (.int .i64 u) := by rw [blk_cell hb7]; rfl
        have hle1 := EdgesTo_le l k u
        have hle3 := EdgesTo_le l k v
        have hk64 : k < 65536 := by omega
        refine wp_region_G 19 (fun w' => w'.cell? ⟨P, 2, none⟩ = some (.slice (some ⟨AB, 0, none⟩) n n) ∧ w'.cell? ⟨B7, 0, none⟩ = some (.int .i64 u) ∧ w'.cell? ⟨AB, u, none⟩ = some (.slice A1 (EdgesTo l k u).length c1)) (by kernel_rfl) (by kernel_rfl) (by intro d v c a w h; cases d <;> exact h) ⟨hp2, h7, hab⟩ ?_
        refine wpG_yield (v := ?_) (i := 0) rfl (by kernel_rfl) (by rfl) ?hy ?_
        case hy => (rintro w' ⟨s1, s2, s3⟩; simp only [List.getElem_toArray, List.getElem_cons_succ, List.getElem_cons_zero]; go_simp; try with_reducible rfl)
        simp only [List.getElem_toArray, List.getElem_cons_succ, List.getElem_cons_zero, Act.put, List.setIfInBounds_toArray, List.set_cons_zero, List.set_cons_succ]
        refine wpG_yield (v := ?_) (i := 1) rfl (by kernel_rfl) (by rfl) ?hy ?_
        case hy => (rintro w' ⟨s1, s2, s3⟩; simp only [List.getElem_toArray, List.getElem_cons_succ, List.getElem_cons_zero]; go_simp; try with_reducible rfl)
        simp only [List.getElem_toArray, List.getElem_cons_succ, List.getElem_cons_zero, Act.put, List.setIfInBounds_toArray, List.set_cons_zero, List.set_cons_succ]
        refine wpG_yield (v := ?_) (i := 2) rfl (by kernel_rfl) (by rfl) ?hy ?_
        case hy => (rintro w' ⟨s1, s2, s3⟩; simp only [List.getElem_toArray, List.getElem_cons_succ, List.getElem_cons_zero]; go_simp; try with_reducible rfl)
        simp only [List.getElem_toArray, List.getElem_cons_succ, List.getElem_cons_zero, Act.put, List.setIfInBounds_toArray, List.set_cons_zero, List.set_cons_succ]
        refine wpG_yield (v := ?_) (i := 3) rfl (by kernel_rfl) (by rfl) ?hy ?_
        case hy => (rintro w' ⟨s1, s2, s3⟩; simp only [List.getElem_toArray, List.getElem_cons_succ, List.getElem_cons_zero]; go_simp; try with_reducible rfl)
        simp only [List.getElem_toArray, List.getElem_cons_succ, List.getElem_cons_zero, Act.put, List.setIfInBounds_toArray, List.set_cons_zero, List.set_cons_succ]
        refine wpG_yield (v := ?_) (i := 4) rfl (by kernel_rfl) (by rfl) ?hy ?_
        case hy => (rintro w' ⟨s1, s2, s3⟩; simp only [List.getElem_toArray, List.getElem_cons_succ, List.getElem_cons_zero]; go_simp; try with_reducible rfl)
        simp only [List.getElem_toArray, List.getElem_cons_succ, List.getElem_cons_zero, Act.put, List.setIfInBounds_toArray, List.set_cons_zero, List.set_cons_succ]
        refine wpG_yield (v := ?_) (i := 5) rfl (by kernel_rfl) (by rfl) ?hy ?_
        case hy => (rintro w' ⟨s1, s2, s3⟩; simp only [List.getElem_toArray, List.getElem_cons_succ, List.getElem_cons_zero]; go_simp; try with_reducible rfl)
        simp only [List.getElem_toArray, List.getElem_cons_succ, List.getElem_cons_zero, Act.put, List.setIfInBounds_toArray, List.set_cons_zero, List.set_cons_succ]
        refine wpG_yield (v := ?_) (i := 6) rfl (by kernel_rfl) (by rfl) ?hy ?_
        case hy => (rintro w' ⟨s1, s2, s3⟩; simp only [List.getElem_toArray, List.getElem_cons_succ, List.getElem_cons_zero]; go_simp; try with_reducible rfl)
        simp only [List.getElem_toArray, List.getElem_cons_succ, List.getElem_cons_zero, Act.put, List.setIfInBounds_toArray, List.set_cons_zero, List.set_cons_succ]
        refine wpG_yield (v := ?_) (i := 7) rfl (by kernel_rfl) (by rfl) ?hy ?_
        case hy => (rintro w' ⟨s1, s2, s3⟩; simp only [List.getElem_toArray, List.getElem_cons_succ, List.getElem_cons_zero]; go_simp; try with_reducible rfl)
        simp only [List.getElem_toArray, List.getElem_cons_succ, List.getElem_cons_zero, Act.put, List.setIfInBounds_toArray, List.set_cons_zero, List.set_cons_succ]
        refine wpG_yield (v := ?_) (i := 8) rfl (by kernel_rfl) (by rfl) ?hy ?_
        case hy => (rintro w' ⟨s1, s2, s3⟩; simp only [List.getElem_toArray, List.getElem_cons_succ, List.getElem_cons_zero]; go_simp; try with_reducible rfl)
        simp only [List.getElem_toArray, List.getElem_cons_succ, List.getElem_cons_zero, Act.put, List.setIfInBounds_toArray, List.set_cons_zero, List.set_cons_succ]
        refine wpG_yield (v := ?_) (i := 9) rfl (by kernel_rfl) (by rfl) ?hy ?_
        case hy => (rintro w' ⟨s1, s2, s3⟩; simp only [List.getElem_toArray, List.getElem_cons_succ, List.getElem_cons_zero]; go_simp; try with_reducible rfl)
        simp only [List.getElem_toArray, List.getElem_cons_succ, List.getElem_cons_zero, Act.put, List.setIfInBounds_toArray, List.set_cons_zero, List.set_cons_succ]
        refine wpG_yield (v := ?_) (i := 10) rfl (by kernel_rfl) (by rfl) ?hy ?_
        case hy => (rintro w' ⟨s1, s2, s3⟩; simp only [List.getElem_toArray, List.getElem_cons_succ, List.getElem_cons_zero]; go_simp; try with_reducible rfl)
        simp only [List.getElem_toArray, List.getElem_cons_succ, List.getElem_cons_zero, Act.put, List.setIfInBounds_toArray, List.set_cons_zero, List.set_cons_succ]
        refine wpG_yield (v := ?_) (i := 11) rfl (by kernel_rfl) (by rfl) ?hy ?_
        case hy => (rintro w' ⟨s1, s2, s3⟩; simp only [List.getElem_toArray, List.getElem_cons_succ, List.getElem_cons_zero]; go_simp; try with_reducible rfl)
        simp only [List.getElem_toArray, List.getElem_cons_succ, List.getElem_cons_zero, Act.put, List.setIfInBounds_toArray, List.set_cons_zero, List.set_cons_succ]
        refine wpG_yield (v := ?_) (i := 12) rfl (by kernel_rfl) (by rfl) ?hy ?_
        case hy => (rintro w' ⟨s1, s2, s3⟩; simp only [List.getElem_toArray, List.getElem_cons_succ, List.getElem_cons_zero]; go_simp; try with_reducible rfl)
        simp only [List.getElem_toArray, List.getElem_cons_succ, List.getElem_cons_zero, Act.put, List.setIfInBounds_toArray, List.set_cons_zero, List.set_cons_succ]
        refine wpG_yield (v := ?_) (i := 13) rfl (by kernel_rfl) (by rfl) ?hy ?_
        case hy => (rintro w' ⟨s1, s2, s3⟩; simp only [List.getElem_toArray, List.getElem_cons_succ, List.getElem_cons_zero]; go_simp; try with_reducible rfl)
        simp only [List.getElem_toArray, List.getElem_cons_succ, List.getElem_cons_zero, Act.put, List.setIfInBounds_toArray, List.set_cons_zero, List.set_cons_succ]
        refine wpG_yield (v := ?_) (i := 14) rfl (by kernel_rfl) (by rfl) ?hy ?_
        case hy => (rintro w' ⟨s1, s2, s3⟩; simp only [List.getElem_toArray, List.getElem_cons_succ, List.getElem_cons_zero]; go_simp; try with_reducible rfl)
        simp only [List.getElem_toArray, List.getElem_cons_succ, List.getElem_cons_zero, Act.put, List.setIfInBounds_toArray, List.set_cons_zero, List.set_cons_succ]
        refine wpG_yield (v := ?_) (i := 15) rfl (by kernel_rfl) (by rfl) ?hy ?_
        case hy => (rintro w' ⟨s1, s2, s3⟩; have hwr3 := hwr1.out; have hwr4 := hwr2.out; simp only [List.getElem_toArray, List.getElem_cons_succ, List.getElem_cons_zero]; go_simp; try with_reducible rfl)
        simp only [List.getElem_toArray, List.getElem_cons_succ, List.getElem_cons_zero, Act.put, List.setIfInBounds_toArray, List.set_cons_zero, List.set_cons_succ]
        refine wpG_only (i := 16) rfl (by kernel_rfl) (by rfl) ⟨.slice (some ⟨w2.heap.size, 0, none⟩) 1 1, (w2.alloc (.cells #[.int .i64 (2 * k : Int)] 3)).drew, ?r1, ⟨(World.cell?_alloc_past (w := w2) _ _ _ (by omega)).trans hp2, (World.cell?_alloc_past (w := w2) _ _ _ (by omega)).trans h7, (World.cell?_alloc_past (w := w2) _ _ _ (by omega)).trans hab⟩, ?_⟩
        case r1 => (simp only [List.getElem_toArray, List.getElem_cons_succ, List.getElem_cons_zero]; go_simp)
        simp only [List.getElem_toArray, List.getElem_cons_succ, List.getElem_cons_zero, Act.put, List.setIfInBounds_toArray, List.set_cons_zero, List.set_cons_succ]
        have hownw3 : OwnF encI 1 3 wc.heap.size (w2.alloc (.cells #[.int .i64 (2 * k : Int)] 3)).drew (V u) (EdgesTo l k u) := (hadj1.own u (by omega)).below ((below1 _ _).drew)
        refine wpG_append1 (i := 17) rfl (by kernel_rfl) (by rfl) (.tmp 36) (.tmp 39) 34 rfl 3 (.int .i64 0) 8 Tryz.underlying34 int_info0 rfl (by decide) encI_len encI_one wc.heap.size (V u) (EdgesTo l k u) (by rw [hv1]; rfl) hownw3 w2.heap.size (2 * k : Int) rfl ?c2 (by omega) (by decide) ?c4 ?_
        case c2 => intro j u hj; simpa [encI] using hj
        case c4 => simp <;> omega
        intro A3 c3 w3 hown3w3 hgw3 hatw3
        have hkw3 := hadj1.keep3 (by omega) hb7 (by decide) hgw3
        have hpw3 := (World.cell?_of_block (a := ⟨P, 2, none⟩) (hkw3 P (by omega) (.inl (by omega)))).trans hp2
        have h7w3 := (World.cell?_of_block (a := ⟨B7, 0, none⟩) (hkw3 B7 (by omega) (.inr rfl))).trans h7
        have habw3 := (World.cell?_of_block (a := ⟨AB, u, none⟩) (hkw3 AB (by omega) (.inl (by omega)))).trans hab
        refine ⟨⟨hpw3, h7w3, habw3⟩, ?_⟩
        simp only [List.getElem_toArray, List.getElem_cons_succ, List.getElem_cons_zero, Act.put, List.setIfInBounds_toArray, List.set_cons_zero, List.set_cons_succ]
        refine wpG_yield (v := ?_) (i := 18) rfl (by kernel_rfl) (by rfl) ?hy ?_
        case hy => (rintro w' ⟨s1, s2, s3⟩; simp only [List.getElem_toArray, List.getElem_cons_succ, List.getElem_cons_zero]; go_simp; try with_reducible rfl)
        simp only [List.getElem_toArray, List.getElem_cons_succ, List.getElem_cons_zero, Act.put, List.setIfInBounds_toArray, List.set_cons_zero, List.set_cons_succ]
        refine wpG_done (by kernel_rfl) ?_
        simp only [List.drop_succ_cons, List.drop_zero]
        have hfrw3 : w3.frozen? ⟨AB, u, none⟩ = false := by
          have := hadj1.froz u
          unfold World.frozen? at this ⊢
          rw [show w3.heap[(⟨AB, u, none⟩ : Addr).block]? = w2.heap[(⟨AB, u, none⟩ : Addr).block]? from hkw3 AB (by omega) (.inl (by omega))]; exact this
        have hszw3 : w2.heap.size + 1 ≤ w3.heap.size := by have := hgw3.size; rw [show (w2.alloc (.cells #[.int .i64 (2 * k : Int)] 3)).drew.heap.size = w2.heap.size + 1 from World.size_alloc _ _] at this; exact this
        have hadj2 := AdjIn.step (hadj1.below ((below1 w2 (.cells #[.int .i64 (2 * k)] 3)).drew)) (by omega) hown3w3 hgw3 hatw3
        have hrow3 : ∀ g, (V u).ownBlock = some g → wc.heap.size ≤ g := fun g hg => (World.ownsRow.lt (hadj1.own u (by omega)) g hg).1
        have hX4 : BelowX wc.heap.size AB wc (w3.setCell ⟨AB, u, none⟩ (.slice A3 ((EdgesTo l k u).length + 1) c3)) := BelowX.set (p := ⟨AB, u, none⟩) (((hX1.alloc hX1.size (.cells #[.int .i64 (2 * k)] 3)).drew).grown hgw3 (by have := hX1.size; simp; omega) hrow3) (.inl rfl) _
        have hB7A : B7 ≠ AB := by omega
        have hb74 : (w3.setCell ⟨AB, u, none⟩ (.slice A3 ((EdgesTo l k u).length + 1) c3)).heap[B7]? = _ := (Below.heap_setCell w3 ⟨AB, u, none⟩ _ B7 hB7A).trans ((hkw3 B7 hz2 (.inr rfl)).trans hb7)
        have hp4 : (w3.setCell ⟨AB, u, none⟩ (.slice A3 ((EdgesTo l k u).length + 1) c3)).cell? ⟨P, 2, none⟩ = _ := (World.cell?_of_block (a := ⟨P, 2, none⟩) (Below.heap_setCell w3 ⟨AB, u, none⟩ _ P hPA)).trans hpw3
        have hz4 : B7 < (w3.setCell ⟨AB, u, none⟩ (.slice A3 ((EdgesTo l k u).length + 1) c3)).heap.size := (Array.getElem?_eq_some_iff.1 hb74).1
        obtain ⟨X2, hX2⟩ : ∃ X2, X2 = (fun x => if x = u then EdgesTo l k u ++ [(2 * k : Int)] else EdgesTo l k x) := ⟨_, rfl⟩
        rw [← hX2] at hadj2
        have hX2v : X2 v = EdgesTo l k v := by rw [hX2]; exact if_neg (by omega)
        have hle2 : (X2 v).length ≤ 2 * k := by rw [hX2v]; exact hle3
        have HX2 : Hid (X2 = _) := hX2
        clear hX2 hX2v
        go_wp2_with fail
        generalize w3.setCell ⟨AB, u, none⟩ (.slice A3 ((EdgesTo l k u).length + 1) c3) = w4 at *
        generalize (fun x => if x = u then Value.slice A3 ((EdgesTo l k u).length + 1) c3 else V x) = V2 at hadj2
        clear hkw3 hpw3 h7w3 habw3 hfrw3 hszw3 hgw3 hown3w3 hownw3 hadj1 hab hp2 hb7 hz2 h7 hX1
        have h74 : w4.cell? ⟨B7, 1, none⟩ = some (.int .i64 v) := by rw [blk_cell hb74]; rfl
        obtain ⟨A4, c4, hv2, _⟩ := (hadj2.own v (by omega)).rd encI_len
        have hab4 := hadj2.cell v (by omega)
        rw [hv2] at hab4
        have hun : (v : Int) < n := by omega
        have hu0 : (0 : Int) ≤ v := by omega
        have hsX4 := hX4.size
        refine wp_region_G 20 (fun w' => w'.cell? ⟨P, 2, none⟩ = some (.slice (some ⟨AB, 0, none⟩) n n) ∧ w'.cell? ⟨B7, 1, none⟩ = some (.int .i64 v) ∧ w'.cell? ⟨AB, v, none⟩ = some (.slice A4 (X2 v).length c4)) (by kernel_rfl) (by kernel_rfl) (by intro d v c a w h; cases d <;> exact h) ⟨hp4, h74, hab4⟩ ?_
        refine wpG_yield (v := ?_) (i := 0) rfl (by kernel_rfl) (by rfl) ?hy ?_
        case hy => (rintro w' ⟨s1, s2, s3⟩; simp only [List.getElem_toArray, List.getElem_cons_succ, List.getElem_cons_zero]; go_simp; try with_reducible rfl)
        simp only [List.getElem_toArray, List.getElem_cons_succ, List.getElem_cons_zero, Act.put, List.setIfInBounds_toArray, List.set_cons_zero, List.set_cons_succ]
        refine wpG_yield (v := ?_) (i := 1) rfl (by kernel_rfl) (by rfl) ?hy ?_
        case hy => (rintro w' ⟨s1, s2, s3⟩; simp only [List.getElem_toArray, List.getElem_cons_succ, List.getElem_cons_zero]; go_simp; try with_reducible rfl)
        simp only [List.getElem_toArray, List.getElem_cons_succ, List.getElem_cons_zero, Act.put, List.setIfInBounds_toArray, List.set_cons_zero, List.set_cons_succ]
        refine wpG_yield (v := ?_) (i := 2) rfl (by kernel_rfl) (by rfl) ?hy ?_
        case hy => (rintro w' ⟨s1, s2, s3⟩; simp only [List.getElem_toArray, List.getElem_cons_succ, List.getElem_cons_zero]; go_simp; try with_reducible rfl)
        simp only [List.getElem_toArray, List.getElem_cons_succ, List.getElem_cons_zero, Act.put, List.setIfInBounds_toArray, List.set_cons_zero, List.set_cons_succ]
        refine wpG_yield (v := ?_) (i := 3) rfl (by kernel_rfl) (by rfl) ?hy ?_
        case hy => (rintro w' ⟨s1, s2, s3⟩; simp only [List.getElem_toArray, List.getElem_cons_succ, List.getElem_cons_zero]; go_simp; try with_reducible rfl)
        simp only [List.getElem_toArray, List.getElem_cons_succ, List.getElem_cons_zero, Act.put, List.setIfInBounds_toArray, List.set_cons_zero, List.set_cons_succ]
        refine wpG_yield (v := ?_) (i := 4) rfl (by kernel_rfl) (by rfl) ?hy ?_
        case hy => (rintro w' ⟨s1, s2, s3⟩; simp only [List.getElem_toArray, List.getElem_cons_succ, List.getElem_cons_zero]; go_simp; try with_reducible rfl)
        simp only [List.getElem_toArray, List.getElem_cons_succ, List.getElem_cons_zero, Act.put, List.setIfInBounds_toArray, List.set_cons_zero, List.set_cons_succ]
        refine wpG_yield (v := ?_) (i := 5) rfl (by kernel_rfl) (by rfl) ?hy ?_
        case hy => (rintro w' ⟨s1, s2, s3⟩; simp only [List.getElem_toArray, List.getElem_cons_succ, List.getElem_cons_zero]; go_simp; try with_reducible rfl)
        simp only [List.getElem_toArray, List.getElem_cons_succ, List.getElem_cons_zero, Act.put, List.setIfInBounds_toArray, List.set_cons_zero, List.set_cons_succ]
        refine wpG_yield (v := ?_) (i := 6) rfl (by kernel_rfl) (by rfl) ?hy ?_
        case hy => (rintro w' ⟨s1, s2, s3⟩; simp only [List.getElem_toArray, List.getElem_cons_succ, List.getElem_cons_zero]; go_simp; try with_reducible rfl)
        simp only [List.getElem_toArray, List.getElem_cons_succ, List.getElem_cons_zero, Act.put, List.setIfInBounds_toArray, List.set_cons_zero, List.set_cons_succ]
        refine wpG_yield (v := ?_) (i := 7) rfl (by kernel_rfl) (by rfl) ?hy ?_
        case hy => (rintro w' ⟨s1, s2, s3⟩; simp only [List.getElem_toArray, List.getElem_cons_succ, List.getElem_cons_zero]; go_simp; try with_reducible rfl)
        simp only [List.getElem_toArray, List.getElem_cons_succ, List.getElem_cons_zero, Act.put, List.setIfInBounds_toArray, List.set_cons_zero, List.set_cons_succ]
        refine wpG_yield (v := ?_) (i := 8) rfl (by kernel_rfl) (by rfl) ?hy ?_
        case hy => (rintro w' ⟨s1, s2, s3⟩; simp only [List.getElem_toArray, List.getElem_cons_succ, List.getElem_cons_zero]; go_simp; try with_reducible rfl)
        simp only [List.getElem_toArray, List.getElem_cons_succ, List.getElem_cons_zero, Act.put, List.setIfInBounds_toArray, List.set_cons_zero, List.set_cons_succ]
        refine wpG_yield (v := ?_) (i := 9) rfl (by kernel_rfl) (by rfl) ?hy ?_
        case hy => (rintro w' ⟨s1, s2, s3⟩; simp only [List.getElem_toArray, List.getElem_cons_succ, List.getElem_cons_zero]; go_simp; try with_reducible rfl)
        simp only [List.getElem_toArray, List.getElem_cons_succ, List.getElem_cons_zero, Act.put, List.setIfInBounds_toArray, List.set_cons_zero, List.set_cons_succ]
        refine wpG_yield (v := ?_) (i := 10) rfl (by kernel_rfl) (by rfl) ?hy ?_
        case hy => (rintro w' ⟨s1, s2, s3⟩; simp only [List.getElem_toArray, List.getElem_cons_succ, List.getElem_cons_zero]; go_simp; try with_reducible rfl)
        simp only [List.getElem_toArray, List.getElem_cons_succ, List.getElem_cons_zero, Act.put, List.setIfInBounds_toArray, List.set_cons_zero, List.set_cons_succ]
        refine wpG_yield (v := ?_) (i := 11) rfl (by kernel_rfl) (by rfl) ?hy ?_
        case hy => (rintro w' ⟨s1, s2, s3⟩; simp only [List.getElem_toArray, List.getElem_cons_succ, List.getElem_cons_zero]; go_simp; try with_reducible rfl)
        simp only [List.getElem_toArray, List.getElem_cons_succ, List.getElem_cons_zero, Act.put, List.setIfInBounds_toArray, List.set_cons_zero, List.set_cons_succ]
        refine wpG_yield (v := ?_) (i := 12) rfl (by kernel_rfl) (by rfl) ?hy ?_
        case hy => (rintro w' ⟨s1, s2, s3⟩; simp only [List.getElem_toArray, List.getElem_cons_succ, List.getElem_cons_zero]; go_simp; try with_reducible rfl)
        simp only [List.getElem_toArray, List.getElem_cons_succ, List.getElem_cons_zero, Act.put, List.setIfInBounds_toArray, List.set_cons_zero, List.set_cons_succ]
        refine wpG_yield (v := ?_) (i := 13) rfl (by kernel_rfl) (by rfl) ?hy ?_
        case hy => (rintro w' ⟨s1, s2, s3⟩; simp only [List.getElem_toArray, List.getElem_cons_succ, List.getElem_cons_zero]; go_simp; try with_reducible rfl)
        simp only [List.getElem_toArray, List.getElem_cons_succ, List.getElem_cons_zero, Act.put, List.setIfInBounds_toArray, List.set_cons_zero, List.set_cons_succ]
        refine wpG_yield (v := ?_) (i := 14) rfl (by kernel_rfl) (by rfl) ?hy ?_
        case hy => (rintro w' ⟨s1, s2, s3⟩; simp only [List.getElem_toArray, List.getElem_cons_succ, List.getElem_cons_zero]; go_simp; try with_reducible rfl)
        simp only [List.getElem_toArray, List.getElem_cons_succ, List.getElem_cons_zero, Act.put, List.setIfInBounds_toArray, List.set_cons_zero, List.set_cons_succ]
        refine wpG_yield (v := ?_) (i := 15) rfl (by kernel_rfl) (by rfl) ?hy ?_
        case hy => (rintro w' ⟨s1, s2, s3⟩; have hwr3 := hwr1.out; have hwr4 := hwr2.out; simp only [List.getElem_toArray, List.getElem_cons_succ, List.getElem_cons_zero]; go_simp; try with_reducible rfl)
        simp only [List.getElem_toArray, List.getElem_cons_succ, List.getElem_cons_zero, Act.put, List.setIfInBounds_toArray, List.set_cons_zero, List.set_cons_succ]
        refine wpG_yield (v := ?_) (i := 16) rfl (by kernel_rfl) (by rfl) ?hy ?_
        case hy => (rintro w' ⟨s1, s2, s3⟩; have hwr3 := hwr1.out; have hwr4 := hwr2.out; simp only [List.getElem_toArray, List.getElem_cons_succ, List.getElem_cons_zero]; go_simp; try with_reducible rfl)
        simp only [List.getElem_toArray, List.getElem_cons_succ, List.getElem_cons_zero, Act.put, List.setIfInBounds_toArray, List.set_cons_zero, List.set_cons_succ]
        refine wpG_only (i := 17) rfl (by kernel_rfl) (by rfl) ⟨.slice (some ⟨w4.heap.size, 0, none⟩) 1 1, (w4.alloc (.cells #[.int .i64 (2 * k + 1 : Int)] 3)).drew, ?r1, ⟨(World.cell?_alloc_past (w := w4) _ _ _ (by omega)).trans hp4, (World.cell?_alloc_past (w := w4) _ _ _ (by omega)).trans h74, (World.cell?_alloc_past (w := w4) _ _ _ (by omega)).trans hab4⟩, ?_⟩
        case r1 => (simp only [List.getElem_toArray, List.getElem_cons_succ, List.getElem_cons_zero]; go_simp)
        simp only [List.getElem_toArray, List.getElem_cons_succ, List.getElem_cons_zero, Act.put, List.setIfInBounds_toArray, List.set_cons_zero, List.set_cons_succ]
        have hownw5 : OwnF encI 1 3 wc.heap.size (w4.alloc (.cells #[.int .i64 (2 * k + 1 : Int)] 3)).drew (V2 v) (X2 v) := (hadj2.own v (by omega)).below ((below1 _ _).drew)
        refine wpG_append1 (i := 18) rfl (by kernel_rfl) (by rfl) (.tmp 55) (.tmp 59) 34 rfl 3 (.int .i64 0) 8 Tryz.underlying34 int_info0 rfl (by decide) encI_len encI_one wc.heap.size (V2 v) (X2 v) (by rw [hv2]; rfl) hownw5 w4.heap.size (2 * k + 1 : Int) rfl ?c2 (by omega) (by decide) ?c4 ?_
        case c2 => intro j u hj; simpa [encI] using hj
        case c4 => simp <;> omega
        intro A5 c5 w5 hown3w5 hgw5 hatw5
        have hkw5 := hadj2.keep3 (by omega) hb74 (by decide) hgw5
        have hpw5 := (World.cell?_of_block (a := ⟨P, 2, none⟩) (hkw5 P (by omega) (.inl (by omega)))).trans hp4
        have h7w5 := (World.cell?_of_block (a := ⟨B7, 1, none⟩) (hkw5 B7 (by omega) (.inr rfl))).trans h74
        have habw5 := (World.cell?_of_block (a := ⟨AB, v, none⟩) (hkw5 AB (by omega) (.inl (by omega)))).trans hab4
        refine ⟨⟨hpw5, h7w5, habw5⟩, ?_⟩
        simp only [List.getElem_toArray, List.getElem_cons_succ, List.getElem_cons_zero, Act.put, List.setIfInBounds_toArray, List.set_cons_zero, List.set_cons_succ]
        refine wpG_yield (v := ?_) (i := 19) rfl (by kernel_rfl) (by rfl) ?hy ?_
        case hy => (rintro w' ⟨s1, s2, s3⟩; simp only [List.getElem_toArray, List.getElem_cons_succ, List.getElem_cons_zero]; go_simp; try with_reducible rfl)
        simp only [List.getElem_toArray, List.getElem_cons_succ, List.getElem_cons_zero, Act.put, List.setIfInBounds_toArray, List.set_cons_zero, List.set_cons_succ]
        refine wpG_done (by kernel_rfl) ?_
        simp only [List.drop_succ_cons, List.drop_zero]
        have hfrw5 : w5.frozen? ⟨AB, v, none⟩ = false := by
          have := hadj2.froz v
          unfold World.frozen? at this ⊢
          rw [show w5.heap[(⟨AB, v, none⟩ : Addr).block]? = w4.heap[(⟨AB, v, none⟩ : Addr).block]? from hkw5 AB (by omega) (.inl (by omega))]; exact this
        have hszw5 : w4.heap.size + 1 ≤ w5.heap.size := by have := hgw5.size; rw [show (w4.alloc (.cells #[.int .i64 (2 * k + 1 : Int)] 3)).drew.heap.size = w4.heap.size + 1 from World.size_alloc _ _] at this; exact this
        have hadj3 := AdjIn.step (hadj2.below ((below1 w4 (.cells #[.int .i64 (2 * k + 1)] 3)).drew)) (by omega) hown3w5 hgw5 hatw5
        have hrow5 : ∀ g, (V2 v).ownBlock = some g → wc.heap.size ≤ g := fun g hg => (World.ownsRow.lt (hadj2.own v (by omega)) g hg).1
        have hX5 : BelowX wc.heap.size AB wc (w5.setCell ⟨AB, v, none⟩ (.slice A5 ((X2 v).length + 1) c5)) := BelowX.set (p := ⟨AB, v, none⟩) (((hX4.alloc hX4.size (.cells #[.int .i64 (2 * k + 1)] 3)).drew).grown hgw5 (by have := hX4.size; simp; omega) hrow5) (.inl rfl) _
        have hE : (fun x => if x = v then X2 v ++ [(2 * k + 1 : Int)] else X2 x) = EdgesTo l (k + 1) := by
          rw [HX2.out]; exact EdgesTo_succ hxH.out (by omega)
        rw [hE] at hadj3
        clear hE HX2
        generalize (fun x => if x = v then Value.slice A5 ((X2 v).length + 1) c5 else V2 x) = V3 at hadj3
        go_wp2
        go_roundw
        case rel => exact ⟨k + 1, V3, hlt, by go_num, hadj3, hX5⟩
        case measure => simp [intOf]; omega
      · obtain rfl : k = l.length := by omega
        have hpP : ∀ j : Nat, wr.cell? ⟨P, j, none⟩ = _ := fun j => (hX.cell (p := ⟨P, j, none⟩) hPz hPA).trans (blk_cell hP j)
        have hFF := (hX.block FB hFz (Ne.symm hne)).trans hF
        have hmade : madeCells #[.int .i64 0] l.length = ((List.replicate l.length (0 : Int)).map (Value.int .i64)).toArray := by
          apply Array.ext'
          rw [toList_madeCells_one]; simp
        rw [hmade] at hFF
        have hsX := hX.size
        have hnet : Net wr.heap.size n wr P FB AB A c l (List.replicate l.length 0) :=
          ⟨⟨hpP 0, hpP 1, hFF, by simp, h.below hBr⟩, hpP 2, by omega, hPF, by omega, by omega, hne, Nat.le_refl _, fun W' q => h.below (hBr.trans (q.below (by omega) gF)), fun v hv => by
            obtain ⟨A1, c1, hv1, _⟩ := (hadj.own v hv).rd encI_len
            have hc1 := hadj.cell v hv
            rw [hv1] at hc1
            refine ⟨A1, c1, by rw [hc1]; simp [EdgesTo, adjTo_all], fun W' q => ?_⟩
            obtain ⟨A2, c2, hv2, _, hr⟩ := ((hadj.own v hv).kept (w' := W') (fun b cur f hb hc => by
              have hbz := (Array.getElem?_eq_some_iff.1 hc).1
              exact (q.block b hbz (by omega)).trans hc)).rd encI_len
            rw [hv1] at hv2
            injection hv2 with hv2 _ _
            rw [hv2]
            exact hr⟩
        clear hmade hFF hpP hP hF hA hadj hX h hin hloop hst
        go_wp2
        go_ret
        exact ⟨P, FB, AB, rfl, hnet, gP, gF, gA, hBr⟩
end Go.Proofs.YtaiibchadlaifaaGreatDoor
