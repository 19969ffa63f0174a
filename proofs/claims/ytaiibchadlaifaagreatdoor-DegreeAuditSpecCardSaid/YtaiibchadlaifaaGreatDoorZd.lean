/-
  slices.Repeat of one number. Conditions: 1 to 65536 times.
  What flow's search has in memory: the result's row, the queue, the marks of its ranges over a function. Conditions: none.
  flow's search: breadth first, by an iterator in a loop. Conditions: the network lies as Net says.
  flow.Max's three functions of its own: along, and what it does at each residual edge. Conditions: the network lies as Net says.
  flow.Max: a flow and the nodes that its residual network reaches. Conditions: the edges read as data.
  degree's try, demand, caught, and Audit's deferred function. Conditions: none.
  degree.Audit. Conditions: the arguments read as data, at most 60 attempts.
  degree.Audit at a valid programme and valid attempts: what its walk wants, in plain Lean. Conditions: none.
-/
import Derived.Laws.Bits64b
import Derived.Deep.DeepCutAuto
import Derived.Sort.LoopGhostIn
import Derived.Scope
import Derived.Sort.CutIn
import Derived.Deep.LoopGhost
import Derived.Deep.RegionWith
import Derived.Recover
import Derived.RecoverIn
import Derived.Test.YtaiibchadlaifaaGreatDoorZc
set_option linter.unusedVariables false
set_option linter.unusedSimpArgs false

namespace Go.Proofs.YtaiibchadlaifaaGreatDoor
open Go.RowKit Go.Shelf

theorem mask32 (a : Nat) (ha : a < 18446744073709551616) : bits .and .u64 (a : Int) 4294967295 = ((a % 4294967296 : Nat) : Int) := by
  have h := bits_and_u64_nat a 4294967295 ha (by omega)
  have e : a &&& 4294967295 = a % 4294967296 := Nat.and_two_pow_sub_one_eq_mod a 32
  rw [e] at h
  exact h
theorem u64w (n : Nat) (hn : n ≤ 65536) : IntKind.u64.wrap (n : Int) = n := by simp [IntKind.wrap, IntKind.bits, IntKind.signed]; omega
set_option maxRecDepth 100000 in
set_option maxHeartbeats 4000000 in
theorem mul64_c (n : Nat) (hn : n ≤ 65536) (w : World) : Calls Tryz.prog 206 #[.int .u64 1, .int .u64 n] w fun e w' => e = .returned (.tuple #[.int .u64 0, .int .u64 n]) ∧ w = w' := by
  have h1 : bits .and .u64 1 4294967295 = 1 := mask32 1 (by omega)
  have h0 : bits .and .u64 0 4294967295 = 0 := mask32 0 (by omega)
  have h2 : bits .and .u64 (n : Int) 4294967295 = n := by rw [mask32 n (by omega), Nat.mod_eq_of_lt (by omega)]
  have h3 : (n : Int) / 4294967296 = 0 := by omega
  have h4 := u64w n hn
  have h5 : IntKind.u64.wrap 0 = 0 := u64w 0 (by omega)
  clear hn
  go_enter Tryz.func206, Tryz.ntmps206
  go_wp2
  go_ret2
  exact ⟨rfl, rfl⟩
set_option maxHeartbeats 4000000 in
theorem mul_c (n : Nat) (hn : n ≤ 65536) (w : World) : Calls Tryz.prog 177 #[.int .u64 1, .int .u64 n] w fun e w' => e = .returned (.tuple #[.int .u64 0, .int .u64 n]) ∧ w = w' := by
  have hc := fun W => mul64_c n hn W
  clear hn
  go_enter Tryz.func177, Tryz.ntmps177
  go_wp2_with (go_at_call 206; refine (hc _).mono ?_; rintro e w' ⟨rfl, rfl⟩)
  go_ret2
  exact ⟨rfl, rfl⟩

def fillL (x : Int) (n k : Nat) : List Value := List.replicate k (.int .i64 x) ++ List.replicate (n - k) (.int .i64 0)
theorem fillL_get {x : Int} {n k j : Nat} (h : j < k) : (fillL x n k)[j]? = some (.int .i64 x) := by
  unfold fillL
  rw [List.getElem?_append_left (by simpa using h)]
  simp [h]
theorem fillL_len {x : Int} {n k : Nat} (h : k ≤ n) : (fillL x n k).length = n := by simp [fillL]; omega
theorem fillL_splice {x : Int} {n k m : Nat} (h : k + m ≤ n) : splice (fillL x n k) k (List.replicate m (.int .i64 x)) = fillL x n (k + m) := by
  have h1 : (fillL x n k).take k = List.replicate k (.int .i64 x) := by
    unfold fillL
    rw [List.take_append_of_le_length (by simp)]
    simp
  have h2 : (fillL x n k).drop (k + m) = List.replicate (n - (k + m)) (.int .i64 0) := by
    unfold fillL
    rw [List.drop_append]
    simp
    omega
  unfold splice
  rw [List.length_replicate, h1, h2]
  unfold fillL
  rw [← List.append_assoc, List.replicate_append_replicate]
theorem int_size : (Tryz.prog.info? 3).map (·.size) = some 1 := by kernel_rfl

theorem exec_copy {P : Program} {w : World} {o : Oper} {a : Act} (d s : Operand) (dT sT : TypeId)
    (ho : o.op = .call { callee := .builtin .copy, args := #[d, s], argTypes := #[dT, sT] }) (elem : TypeId) (hu : P.underlying dT = some (.slice elem)) (hsz : (P.info? elem).map (·.size) = some 1)
    (g off dLen dCap : Nat) (ad : Addr) (sLen sCap : Nat) (hd : a.eval d = .slice (some ⟨g, off, none⟩) dLen dCap) (hs : a.eval s = .slice (some ad) sLen sCap)
    (cur : List Value) (t : TypeId) (hg : w.heap[g]? = some (.cells cur.toArray t (0, 0))) (cs : List Value) (hn : cs.length = Nat.min sLen dLen)
    (hsrc : ∀ j v, cs[j]? = some v → w.cell? (ad.add j) = some v) (hfit : off + cs.length ≤ cur.length) (h1 : ∀ v ∈ cs, v.oneCell' = true) :
    (execOp a.eval o).run P w = .ok (.value (goInt cs.length)) (w.setRow g (splice cur off cs).toArray) := by
  have hrun := run_copy_row (P := P) w dT sT o.type elem g off dLen dCap ad sLen sCap cur.toArray t cs hu hsz hg hn hsrc (by simpa using hfit) h1
  simp [execOp, ho, resolve, invoke, builtin, hd, hs, hrun, Result.andThen, splice]

set_option maxRecDepth 100000 in
set_option maxHeartbeats 8000000 in
theorem repeat_c (g : Nat) (x : Int) (n : Nat) (h1 : 1 ≤ n) (hn : n ≤ 65536) (w : World) (hg : w.cell? ⟨g, 0, none⟩ = some (.int .i64 x)) (hgz : g < w.heap.size) :
    Calls Tryz.prog 141 #[.slice (some ⟨g, 0, none⟩) 1 1, .int .i64 n] w fun e w' => e = .returned (.slice (some ⟨w.heap.size, 0, none⟩) n n) ∧ w'.heap[w.heap.size]? = some (.cells (fillL x n n).toArray 3 (0, 0)) ∧ Below w.heap.size w w' := by
  have hmc := fun W => mul_c n hn W
  obtain ⟨C0, hC0⟩ : ∃ C0 : List Value, C0 = fillL x n 0 := ⟨_, rfl⟩
  have hmk : ∀ W : World, (Instr.makeSlice 34 (.int .i64 (n : Int)) (.int .i64 (n : Int))).run Tryz.prog W = .ok (.slice (some ⟨W.heap.size, 0, none⟩) n n) (W.alloc (.cells C0.toArray 3)) := fun W => by
    have := run_make_row' (P := Tryz.prog) 34 3 (.int .i64 0) 8 Tryz.underlying34 int_info rfl .i64 .i64 n (by omega) (by omega) W
    rw [this]
    congr 3
    apply Array.ext'
    rw [toList_madeCells_one, hC0]
    simp [fillL]
  have hw1 := u64w n hn
  have hw2 : IntKind.i64.wrap (n : Int) = n := by simp [IntKind.wrap, IntKind.bits, IntKind.signed]; omega
  have HC : Hid (C0 = fillL x n 0) := hC0
  have hn0 : (0 : Int) ≤ n := by omega
  have hn1 : (1 : Int) ≤ n := by omega
  clear hC0
  go_enter Tryz.func141, Tryz.ntmps141
  obtain ⟨B, hB⟩ : ∃ B, B = w.heap.size := ⟨_, rfl⟩
  rw [← hB] at hgz
  have hb1 := below1 w (.cells C0.toArray 3)
  have hC1 : Hid ((w.alloc (.cells C0.toArray 3)).heap[w.heap.size]? = some (.cells C0.toArray 3 (0, 0))) := World.alloc_heap_new w _
  have hgc : (w.alloc (.cells C0.toArray 3)).cell? ⟨g, 0, none⟩ = some (.int .i64 x) := (World.cell?_alloc_past _ _ _ (by omega)).trans hg
  have hone : ∀ m : Nat, ∀ v ∈ List.replicate m (Value.int .i64 x), v.oneCell' = true := fun m v hv => by rw [List.eq_of_mem_replicate hv]; rfl
  have hlen0 : C0.length = n := by rw [HC.out]; exact fillL_len (by omega)
  have HL : Hid (C0.length = n) := hlen0
  clear hlen0
  obtain ⟨cs1, hcs1⟩ : ∃ cs1 : List Value, cs1 = List.replicate 1 (.int .i64 x) := ⟨_, rfl⟩
  have HS : Hid (cs1 = List.replicate 1 (.int .i64 x)) := hcs1
  clear hcs1
  go_upto_region 7 with (go_at_call 177; refine (hmc _).mono ?_; rintro e w' ⟨rfl, rfl⟩)
  refine wp_region_lit ?_
  refine wpList_plain rfl (fun K hK => ?_)
  go_simp
  refine hK _ _ ?_
  clear hK K
  refine wpList_plain rfl (fun K hK => ?_)
  go_simp
  refine hK _ _ ?_
  clear hK K
  refine wpList_copy_splice rfl (.tmp 31) (.tmp 32) 34 34 rfl 3 Tryz.underlying34 int_size (some ⟨w.heap.size, 0, none⟩) (some ⟨g, 0, none⟩) n n 1 1 rfl rfl w.heap.size 0 C0 3 hC1.out cs1 (by rw [HS.out, List.length_replicate]; exact (Nat.min_eq_left h1).symm) (fun _ => ⟨rfl, _, rfl, fun j v hj => by
    rw [HS.out] at hj
    cases j with
    | zero => simp at hj; subst hj; simpa [Addr.add] using hgc
    | succ j => simp at hj⟩) (by rw [HS.out, HL.out]; simp; omega) (by rw [HS.out]; exact hone 1) w.heap.size w hb1 (Nat.le_refl _) ?_
  intro w1 hr1 hB1
  rw [show splice C0 0 cs1 = fillL x n 1 from by rw [HC.out, HS.out]; exact fillL_splice (by omega)] at hr1
  rw [show cs1.length = 1 from by rw [HS.out]; rfl]
  have hr1 : Hid (w1.heap[w.heap.size]? = some (.cells (fillL x n 1).toArray 3 (0, 0))) := hr1
  clear hmk HC HS HL hC1 hgc hb1 hmc hg
  simp only [goInt, Act.put, List.setIfInBounds_toArray, List.set_cons_zero, List.set_cons_succ]
  go_wp2_with fail
  go_loopw [8] (fun u8 wr => ∃ k : Nat, 1 ≤ k ∧ k ≤ n ∧ u8 = .int .i64 k ∧ Hid (wr.heap[w.heap.size]? = some (.cells (fillL x n k).toArray 3 (0, 0))) ∧ Below w.heap.size w wr) (fun u8 _ => n - (intOf u8).toNat)
  case atStart => exact ⟨1, Nat.le_refl _, h1, rfl, hr1, hB1⟩
  case round =>
    obtain ⟨k, hk1, hk, rfl, hr, hBr⟩ := hrel
    have hsw := hBr.size
    by_cases hlt : k < n
    · obtain ⟨m, hm⟩ : ∃ m, m = Nat.min k (n - k) := ⟨_, rfl⟩
      have hm1 : 1 ≤ m ∧ k + m ≤ n ∧ m ≤ k := by rw [hm]; exact ⟨by show 1 ≤ min k (n - k); omega, by show k + min k (n - k) ≤ n; omega, Nat.min_le_left _ _⟩
      obtain ⟨hm1, hm2, hm3⟩ := hm1
      have HM : Hid (m = Nat.min k (n - k)) := hm
      obtain ⟨cs, hcs⟩ : ∃ cs : List Value, cs = List.replicate m (.int .i64 x) := ⟨_, rfl⟩
      have HS : Hid (cs = List.replicate m (.int .i64 x)) := hcs
      have hkk : ¬ n = k := by omega
      clear hm hcs hr1 hB1
      have hkn : (k : Int) ≤ n := by omega
      have hwk : IntKind.i64.wrap ((k : Int) + m) = k + m := by simp [IntKind.wrap, IntKind.bits, IntKind.signed]; omega
      have HW : Hid (IntKind.i64.wrap ((k : Int) + m) = k + m) := hwk
      clear hwk
      go_wp2_with fail
      refine wp_region_G 8 (fun _ => True) (by kernel_rfl) (by kernel_rfl) (by intro d v c a w h; cases d <;> exact h) trivial ?_
      refine wpG_yield (v := ?_) (i := 0) rfl (by kernel_rfl) (by rfl) ?hy ?_
      case hy => (rintro w' -; simp only [List.getElem_toArray, List.getElem_cons_succ, List.getElem_cons_zero]; go_simp; try with_reducible rfl)
      simp only [List.getElem_toArray, List.getElem_cons_succ, List.getElem_cons_zero, Act.put, List.setIfInBounds_toArray, List.set_cons_zero, List.set_cons_succ]
      refine wpG_yield (v := ?_) (i := 1) rfl (by kernel_rfl) (by rfl) ?hy ?_
      case hy => (rintro w' -; simp only [List.getElem_toArray, List.getElem_cons_succ, List.getElem_cons_zero]; go_simp; try with_reducible rfl)
      simp only [List.getElem_toArray, List.getElem_cons_succ, List.getElem_cons_zero, Act.put, List.setIfInBounds_toArray, List.set_cons_zero, List.set_cons_succ]
      refine wpG_yield (v := ?_) (i := 2) rfl (by kernel_rfl) (by rfl) ?hy ?_
      case hy => (rintro w' -; simp only [List.getElem_toArray, List.getElem_cons_succ, List.getElem_cons_zero]; go_simp; try with_reducible rfl)
      simp only [List.getElem_toArray, List.getElem_cons_succ, List.getElem_cons_zero, Act.put, List.setIfInBounds_toArray, List.set_cons_zero, List.set_cons_succ]
      refine wpG_yield (v := ?_) (i := 3) rfl (by kernel_rfl) (by rfl) ?hy ?_
      case hy => (rintro w' -; simp only [List.getElem_toArray, List.getElem_cons_succ, List.getElem_cons_zero]; go_simp; try with_reducible rfl)
      simp only [List.getElem_toArray, List.getElem_cons_succ, List.getElem_cons_zero, Act.put, List.setIfInBounds_toArray, List.set_cons_zero, List.set_cons_succ]
      refine wpG_yield (v := ?_) (i := 4) rfl (by kernel_rfl) (by rfl) ?hy ?_
      case hy => (rintro w' -; simp only [List.getElem_toArray, List.getElem_cons_succ, List.getElem_cons_zero]; go_simp; try with_reducible rfl)
      simp only [List.getElem_toArray, List.getElem_cons_succ, List.getElem_cons_zero, Act.put, List.setIfInBounds_toArray, List.set_cons_zero, List.set_cons_succ]
      refine wpG_yield (v := ?_) (i := 5) rfl (by kernel_rfl) (by rfl) ?hy ?_
      case hy => (rintro w' -; simp only [List.getElem_toArray, List.getElem_cons_succ, List.getElem_cons_zero]; go_simp; try with_reducible rfl)
      simp only [List.getElem_toArray, List.getElem_cons_succ, List.getElem_cons_zero, Act.put, List.setIfInBounds_toArray, List.set_cons_zero, List.set_cons_succ]
      refine wpG_yield (v := ?_) (i := 6) rfl (by kernel_rfl) (by rfl) ?hy ?_
      case hy => (rintro w' -; simp only [List.getElem_toArray, List.getElem_cons_succ, List.getElem_cons_zero]; go_simp; try with_reducible rfl)
      simp only [List.getElem_toArray, List.getElem_cons_succ, List.getElem_cons_zero, Act.put, List.setIfInBounds_toArray, List.set_cons_zero, List.set_cons_succ]
      refine wpG_only (i := 7) rfl (by kernel_rfl) (by rfl) ?_
      simp only [List.getElem_toArray, List.getElem_cons_succ, List.getElem_cons_zero]
      refine ⟨_, _, exec_copy (P := Tryz.prog) (w := wr.drew) (.tmp 41) (.tmp 44) 34 34 rfl 3 Tryz.underlying34 int_size w.heap.size k (n - k) (n - k) ⟨w.heap.size, 0, none⟩ k n rfl rfl (fillL x n k) 3 hr.out cs (by rw [HS.out, List.length_replicate]; exact HM.out) (fun j v hj => by
        rw [HS.out, List.getElem?_replicate] at hj
        split at hj
        · cases hj
          have := fillL_get (x := x) (n := n) (k := k) (j := j) (by omega)
          show wr.cell? _ = _
          rw [Addr.add_lit, Nat.zero_add, blk_cell hr.out]
          simpa using this
        · cases hj) (by rw [HS.out, fillL_len hk]; simp; omega) (by rw [HS.out]; exact hone m), trivial, ?_⟩
      have hr2 : (wr.drew.setRow w.heap.size (splice (fillL x n k) k cs).toArray).heap[w.heap.size]? = some (.cells (splice (fillL x n k) k cs).toArray 3 (0, 0)) := setRow_heap wr.drew w.heap.size _ _ _ _ hr.out
      have hB2 := below_setRow hBr.drew (Nat.le_refl w.heap.size) (splice (fillL x n k) k cs).toArray
      simp only [List.getElem_toArray, List.getElem_cons_succ, List.getElem_cons_zero, Act.put, List.setIfInBounds_toArray, List.set_cons_zero, List.set_cons_succ]
      refine wpG_done (by kernel_rfl) ?_
      simp only [List.drop_succ_cons, List.drop_zero]
      generalize wr.drew.setRow w.heap.size (splice (fillL x n k) k cs).toArray = w2 at *
      rw [show splice (fillL x n k) k cs = fillL x n (k + m) from by rw [HS.out]; exact fillL_splice hm2] at hr2
      rw [show cs.length = m from by rw [HS.out]; simp]
      have hr2 : Hid (w2.heap[w.heap.size]? = some (.cells (fillL x n (k + m)).toArray 3 (0, 0))) := hr2
      have hwk := HW.out
      simp only [goInt, Act.put, List.setIfInBounds_toArray, List.set_cons_zero, List.set_cons_succ]
      go_wp2_with fail
      go_roundw
      case rel => exact ⟨k + m, by omega, hm2, by go_num, hr2, hB2⟩
      case measure => simp [intOf]; omega
    · obtain rfl : k = n := by omega
      have hr := hr
      go_wp2
      go_ret
      exact ⟨rfl, hr.out, hBr⟩
end Go.Proofs.YtaiibchadlaifaaGreatDoor

namespace Go.Proofs.YtaiibchadlaifaaGreatDoor
open Go.RowKit Go.Shelf
attribute [local go_sem] Oper.semAt_some

/-- A scope without a jump to a label, within a fence (as Derived.Scope has it outside one). -/
theorem wpIn_scope_straight {F : Fence} {n : Nat} {P : Program} {Q : Exit → Act → World → Prop} {a : Act} {w : World} {c : Code} (h : c.wpIn F n P (Exit.noGoto Q) a w) : (Code.scope c).wpIn F n P Q a w := by
  have s1 : ∀ {b : Frame} {a : Act} {k : List Item} {cs : List Frame} {w : World}, step P (lone (b.atR a (.code (.scope c) :: k)) cs w) = .next (lone (b.atR a (.code c :: .inScope c :: k)) cs w) :=
    step_lone_go (by simp [stepG, stepG.exec, Frame.atR])
  have s2 : ∀ {b : Frame} {a : Act} {k : List Item} {cs : List Frame} {w : World}, step P (lone (b.atR a (.inScope c :: k)) cs w) = .next (lone (b.atR a k) cs w) :=
    step_lone_go (by simp [stepG, stepG.exec, Frame.atR])
  intro b k cs hro hb hr
  have h0 : (lone (b.atR a (.code (.scope c) :: k)) cs w).fenced P F := fenced_calm hb hr rfl
  obtain ⟨e, a₁, w₁, hq, harr⟩ := h b (.inScope c :: k) cs hro hb hr
  cases e with
  | normal => exact ⟨.normal, a₁, w₁, hq, .head h0 s1 (StepsIn.trans harr (.one (fenced_calm hb hr rfl) s2))⟩
  | exit id =>
    have hx : exitTo id (.inScope c :: k) = exitTo id k := by simp [exitTo]
    exact ⟨.exit id, a₁, w₁, hq, fun k' hk => .head h0 s1 (harr.1 k' (by rw [hx]; exact hk)),
      fun hr' hk => let ⟨k₁, h1, h2⟩ := harr.2 hr' (by rw [hx]; exact hk); ⟨k₁, h1, .head h0 s1 h2⟩⟩
  | goto l => exact hq.elim
  | ret => exact ⟨_, a₁, w₁, hq, .of_steps (.one h0 s1) harr⟩
  | panic ch => exact ⟨_, a₁, w₁, hq, .of_steps (.one h0 s1) harr⟩
  | outgrown => exact ⟨_, a₁, w₁, hq, .of_steps (.one h0 s1) harr⟩

/-- A frame's marks of ranges over functions, all of whose blocks are empty: it leaves. -/
def marks (Ds : List Nat) : List Deferred := Ds.map fun D => { target := .collected D, args := #[] }
structure MarksOk (h : Nat) (W : World) (Ds : List Nat) : Prop where
  nod : Ds.Nodup
  blk : ∀ D, D ∈ Ds → h ≤ D ∧ W.heap[D]? = some (.deferred (some []))
theorem MarksOk.keep {h : Nat} {W W' : World} {Ds : List Nat} (m : MarksOk h W Ds) (k : ∀ (b : Nat) (o : Obj), W.heap[b]? = some o → o.isCells = false → h ≤ b → W'.heap[b]? = some o) : MarksOk h W' Ds :=
  ⟨m.nod, fun D hD => ⟨(m.blk D hD).1, k D _ (m.blk D hD).2 rfl (m.blk D hD).1⟩⟩
theorem leaves_marks {F : Fence} {n h : Nat} {P : Program} {fn : Func} {tmps : Array Value} {R : Ending → World → Prop} : ∀ (Ds : List Nat) (W : World), MarksOk h W Ds →
    (∀ W', Below h W W' → (∀ (b : Nat) (o : Obj), W.heap[b]? = some o → o.isCells = true → W'.heap[b]? = some o) → LeavesInM F n P fn tmps R [] .returning W') → LeavesInM F n P fn tmps R (marks Ds) .returning W
  | [], W, _, hR => hR W (Below.refl _ _) (fun _ _ h _ => h)
  | D :: Ds, W, m, hR => by
    obtain ⟨h1, h2⟩ := m.blk D (by simp)
    have hnd := List.nodup_cons.1 m.nod
    refine ⟨by simp, .inl ⟨D, _, rfl, run_takeDeferred h2, ?_⟩⟩
    refine leaves_marks (h := h) Ds _ ⟨hnd.2, fun E hE => ?_⟩ (fun W' hb hc => hR W' ?_ ?_)
    · obtain ⟨h3, h4⟩ := m.blk E (by simp [hE])
      exact ⟨h3, (World.putObj_heap_other (by rintro rfl; exact hnd.1 hE)).trans h4⟩
    · exact Below.trans (b := W.putObj D (Obj.deferred none)) ⟨rfl, rfl, rfl, by simp, fun k hk => World.putObj_heap_other (by omega)⟩ hb
    · intro b o ho hoc
      refine hc b o ((World.putObj_heap_other ?_).trans ho) hoc
      rintro rfl
      rw [h2] at ho; cases ho; cases hoc

/-- What a search has in memory: h the block of the node sought, then the result's; g the row of the result; Q the queue's, q0 the least block of its rows. -/
structure SInv (l : List Edge) (F : List Int) (n s t h g Q q0 : Nat) (W : World) (bys : List Int) (vis : List Nat) (hd qg qoff qcap : Nat) : Prop where
  to_ : W.heap[h]? = some (.cells #[.int .i64 t] 3 (0, 0))
  byc : W.heap[h + 1]? = some (.cells #[.slice (some ⟨g, 0, none⟩) n n] 34 (0, 0))
  row : W.heap[g]? = some (.cells (bys.map (Value.int .i64)).toArray 3 (0, 0))
  qc : W.heap[Q]? = some (.cells #[.slice (some ⟨qg, qoff, none⟩) (vis.length - hd) qcap] 34 (0, 0))
  q : QRow q0 W qg qoff qcap ((vis.drop hd).map Int.ofNat)
  reach : Reach l F n s bys vis
  ord : h + 1 < g ∧ g < q0 ∧ q0 < Q
  hd_le : hd ≤ vis.length

theorem SInv.keepC {l : List Edge} {F : List Int} {n s t h g Q q0 : Nat} {W W' : World} {bys : List Int} {vis : List Nat} {hd qg qoff qcap : Nat} (i : SInv l F n s t h g Q q0 W bys vis hd qg qoff qcap) (k : KeepC W W') : SInv l F n s t h g Q q0 W' bys vis hd qg qoff qcap :=
  ⟨k _ _ _ _ i.to_, k _ _ _ _ i.byc, k _ _ _ _ i.row, k _ _ _ _ i.qc, by
    obtain ⟨cur, h1, h2⟩ := i.q.blk
    exact ⟨i.q.hg, ⟨cur, k _ _ _ _ h1, h2⟩, i.q.len, i.q.max⟩, i.reach, i.ord, i.hd_le⟩
theorem SInv.qne {l : List Edge} {F : List Int} {n s t h g Q q0 : Nat} {W : World} {bys : List Int} {vis : List Nat} {hd qg qoff qcap : Nat} (i : SInv l F n s t h g Q q0 W bys vis hd qg qoff qcap) : qg ≠ Q := by
  rintro rfl
  obtain ⟨cur, h1, _⟩ := i.q.blk
  have := i.qc
  rw [h1] at this
  injection this with this
  injection this with _ this _
  cases this
theorem SInv.pop {l : List Edge} {F : List Int} {n s t h g Q q0 : Nat} {W : World} {bys : List Int} {vis : List Nat} {hd qg qoff qcap qo qc : Nat} (i : SInv l F n s t h g Q q0 W bys vis hd qg qoff qcap) (hq : QRow q0 W qg qo qc ((vis.drop (hd + 1)).map Int.ofNat)) (hlt : hd < vis.length) :
    SInv l F n s t h g Q q0 (W.setCell ⟨Q, 0, none⟩ (.slice (some ⟨qg, qo, none⟩) (vis.length - hd - 1) qc)) bys vis (hd + 1) qg qo qc := by
  obtain ⟨o1, o2, o3⟩ := i.ord
  have hne := i.qne
  have k : ∀ b, b ≠ Q → (W.setCell ⟨Q, 0, none⟩ (.slice (some ⟨qg, qo, none⟩) (vis.length - hd - 1) qc)).heap[b]? = W.heap[b]? := fun b hb => Below.heap_setCell W ⟨Q, 0, none⟩ _ b hb
  refine ⟨(k _ (by omega)).trans i.to_, (k _ (by omega)).trans i.byc, (k _ (by omega)).trans i.row, ?_, hq.keep (k _ hne), i.reach, i.ord, hlt⟩
  exact heap_setCell_same W Q 0 _ _ _ i.qc
/-- A node is reached: its row's cell is written. -/
theorem SInv.found {l : List Edge} {F : List Int} {n s t h g Q q0 : Nat} {W : World} {bys : List Int} {vis : List Nat} {hd qg qoff qcap : Nat} (i : SInv l F n s t h g Q q0 W bys vis hd qg qoff qcap) (u : Nat) (r : Int) :
    (W.setCell ⟨g, u, none⟩ (.int .i64 r)).heap[h + 1]? = some (.cells #[.slice (some ⟨g, 0, none⟩) n n] 34 (0, 0)) ∧ (W.setCell ⟨g, u, none⟩ (.int .i64 r)).heap[g]? = some (.cells ((bys.set u r).map (Value.int .i64)).toArray 3 (0, 0)) ∧ (W.setCell ⟨g, u, none⟩ (.int .i64 r)).heap[h]? = some (.cells #[.int .i64 t] 3 (0, 0)) ∧ (W.setCell ⟨g, u, none⟩ (.int .i64 r)).heap[Q]? = some (.cells #[.slice (some ⟨qg, qoff, none⟩) (vis.length - hd) qcap] 34 (0, 0)) ∧ QRow q0 (W.setCell ⟨g, u, none⟩ (.int .i64 r)) qg qoff qcap ((vis.drop hd).map Int.ofNat) := by
  obtain ⟨o1, o2, o3⟩ := i.ord
  have hg := i.q.hg
  have k : ∀ b, b ≠ g → (W.setCell ⟨g, u, none⟩ (.int .i64 r)).heap[b]? = W.heap[b]? := fun b hb => Below.heap_setCell W ⟨g, u, none⟩ _ b hb
  refine ⟨(k _ (by omega)).trans i.byc, ?_, (k _ (by omega)).trans i.to_, (k _ (by omega)).trans i.qc, i.q.keep (k _ (by omega))⟩
  rw [heap_setCell_same W g u _ _ _ i.row, List.map_set, ← List.setIfInBounds_toArray]
/-- .. and the node is laid at the queue's end. -/
theorem SInv.push {l : List Edge} {F : List Int} {n s t h g Q q0 : Nat} {W W1 W2 : World} {bys : List Int} {vis : List Nat} {hd qg qoff qcap u r g' off' cap' : Nat} {o : Obj} (i : SInv l F n s t h g Q q0 W bys vis hd qg qoff qcap) (hW1 : W1 = W.setCell ⟨g, u, none⟩ (.int .i64 r)) (hr : Reach l F n s (bys.set u (r : Int)) (vis ++ [u]))
    (hq : QRow q0 W2 g' off' cap' ((vis.drop hd).map Int.ofNat ++ [(u : Int)])) (hg : (W1.alloc o).grownBy W2 (some qg)) (hQz : Q < W.heap.size) :
    SInv l F n s t h g Q q0 (W2.setCell ⟨Q, 0, none⟩ (.slice (some ⟨g', off', none⟩) (vis.length - hd + 1) cap')) (bys.set u (r : Int)) (vis ++ [u]) hd g' off' cap' := by
  obtain ⟨o1, o2, o3⟩ := i.ord
  have hqg := i.q.hg
  have hqn := i.qne
  have hle := i.hd_le
  obtain ⟨f1, f2, f3, f4, f5⟩ := i.found u (r : Int)
  rw [← hW1] at f1 f2 f3 f4 f5
  have k : ∀ b, b ≠ qg → ∀ o' : Obj, W1.heap[b]? = some o' → W2.heap[b]? = some o' := fun b hb o' ho => by
    have hz := (Array.getElem?_eq_some_iff.1 ho).1
    exact (hg.block b (by rw [World.size_alloc]; omega) (by simpa using hb)).trans ((Below.heap_alloc W1 _ b hz).trans ho)
  have k2 : ∀ b, b ≠ Q → (W2.setCell ⟨Q, 0, none⟩ (.slice (some ⟨g', off', none⟩) (vis.length - hd + 1) cap')).heap[b]? = W2.heap[b]? := fun b hb => Below.heap_setCell W2 ⟨Q, 0, none⟩ _ b hb
  have hQ2 := k Q (Ne.symm hqn) _ f4
  have hne : g' ≠ Q := by
    rintro rfl
    obtain ⟨cur, h1, _⟩ := hq.blk
    rw [h1] at hQ2
    injection hQ2 with hQ2
    injection hQ2 with _ hQ2 _
    cases hQ2
  refine ⟨(k2 _ (by omega)).trans (k _ (by omega) _ f3), (k2 _ (by omega)).trans (k _ (by omega) _ f1), (k2 _ (by omega)).trans (k _ (by omega) _ f2), ?_, ?_, hr, i.ord, by simp; omega⟩
  · rw [heap_setCell_same W2 Q 0 _ _ _ hQ2]
    simp
    omega
  · rw [List.drop_append_of_le_length hle, List.map_append]
    exact hq.keep (k2 _ hne)
theorem KeepC.book {w w' : World} {row : Option Nat} (hg : w.grownBy w' row) (hr : ∀ r, row = some r → ∃ o : Obj, w.heap[r]? = some o ∧ o.isCells = false) : KeepC w w' := fun b c e f hb =>
  (hg.block b (Array.getElem?_eq_some_iff.1 hb).1 (fun q => by obtain ⟨o, ho, hc⟩ := hr b q.symm; rw [hb] at ho; cases ho; cases hc)).trans hb
theorem KeepC.drew (w : World) : KeepC w w.drew := fun _ _ _ _ h => h
theorem nodup_lt_length : ∀ (n : Nat) (l : List Nat), l.Nodup → (∀ x, x ∈ l → x < n) → l.length ≤ n
  | 0, [], _, _ => Nat.le_refl _
  | 0, x :: l, _, h => by have := h x (by simp); omega
  | n + 1, l, hn, h => by
    have h1 := nodup_lt_length n (l.erase n) (hn.erase n) (fun x hx => by
      obtain ⟨a, b⟩ := hn.mem_erase_iff.1 hx
      have := h x b; omega)
    rw [List.length_erase] at h1
    split at h1 <;> omega
theorem Reach.vis_le {l : List Edge} {F : List Int} {n s : Nat} {bys : List Int} {vis : List Nat} (h : Reach l F n s bys vis) : vis.length ≤ n := nodup_lt_length n vis h.nod h.lt

end Go.Proofs.YtaiibchadlaifaaGreatDoor

namespace Go.Proofs.YtaiibchadlaifaaGreatDoor
open Go.RowKit Go.Shelf
attribute [local go_sem] Oper.semAt_some

set_option maxRecDepth 100000 in
set_option maxHeartbeats 16000000 in
theorem search_c (N n : Nat) (W : World) (P FB AB : Nat) (A : Option Addr) (c : Nat) (l : List Edge) (F : List Int) (net : Net N n W P FB AB A c l F) (ok : okF l F) (m30 : ∀ e, e ∈ l → e.m ≤ 1073741824) (hn : n ≤ 4096) (hll : l.length ≤ 65536) (hin : nodesIn n l) (s t : Nat) (hs : s < n) (ht : t < n) (hst : s ≠ t) :
    Calls Tryz.prog 86 #[.pointer (some ⟨P, 0, none⟩), .int .i64 s, .int .i64 t] W fun e w' => ∃ g bys vis, e = .returned (.slice (some ⟨g, 0, none⟩) n n) ∧ W.heap.size ≤ g ∧ w'.heap[g]? = some (.cells (bys.map (Value.int .i64)).toArray 3 (0, 0)) ∧ Reach l F n s bys vis ∧ (t ∉ vis → ∀ (v r : Nat), v ∈ vis → r < 2 * l.length → 0 < capR l F r → begR l r = v → ∃ u : Nat, u ∈ vis ∧ endR l r = u) ∧ Below W.heap.size W w' := by
  have hrep := fun Wx g h1 h2 => repeat_c g (-1) n (by omega) (by omega) Wx h1 h2
  have hpa := net.a
  have hpe := net.net.e
  have hPz := Nat.lt_of_lt_of_le net.hP net.hN
  have hPz1 : P < W.heap.size + 1 := by omega
  have hPz2 : P < W.heap.size + 1 + 1 := by omega
  have hN := net.hN
  have hs' : (s : Int) < n := by omega
  refine (callsIn_wide (n := 10)).1 ?_
  refine callsIn_of_wp_marks Tryz.func86 rfl trivial ?_ rfl
  simp only [Tryz.ntmps86, List.size_toArray, List.length_cons, List.length_nil, Nat.reduceAdd, Nat.reduceSub, Array.replicate_succ, Array.replicate_zero, List.push_toArray, List.append_toArray, List.nil_append, List.cons_append]
  gi_wp2_with fail
  refine wpIn_scope_straight ?_
  gi_wp2_with fail
  refine ⟨trivial, ?_⟩
  have hb3 := below3 W (.cells #[.int .i64 t] 3) (.cells #[.slice none 0 0] 34) (.cells #[.int .i64 (-1)] 3)
  have hb30 := alloc3_blk0 W (.cells #[.int .i64 t] 3) (.cells #[.slice none 0 0] 34) (.cells #[.int .i64 (-1)] 3)
  have hb31 := alloc3_blk1 W (.cells #[.int .i64 t] 3) (.cells #[.slice none 0 0] 34) (.cells #[.int .i64 (-1)] 3)
  have hb32 := alloc3_blk2 W (.cells #[.int .i64 t] 3) (.cells #[.slice none 0 0] 34) (.cells #[.int .i64 (-1)] 3)
  have hb3z := alloc3_size W (.cells #[.int .i64 t] 3) (.cells #[.slice none 0 0] 34) (.cells #[.int .i64 (-1)] 3)
  generalize ((W.alloc (.cells #[.int .i64 t] 3)).alloc (.cells #[.slice none 0 0] 34)).alloc (.cells #[.int .i64 (-1)] 3) = W3 at *
  refine (callsIn_wide.2 (hrep W3 (W.heap.size + 1 + 1) (by rw [blk_cell hb32]; rfl) (by omega))).mono ?_
  rintro e w1 ⟨rfl, hrow, hb1⟩
  have hto1 := (hb1.block W.heap.size (by omega)).trans hb30
  have hby1 := (hb1.block (W.heap.size + 1) (by omega)).trans hb31
  have hB1 : Below W.heap.size W w1 := bthen hb3 hb1
  have hrow : w1.heap[W3.heap.size]? = some (.cells ((List.replicate n (-1 : Int)).map (Value.int .i64)).toArray 3 (0, 0)) := by rw [hrow]; simp [fillL]
  have hgz : W.heap.size + 2 < W3.heap.size := by omega
  have hgz1 := (Array.getElem?_eq_some_iff.1 hrow).1
  clear hb3 hb30 hb31 hb32 hb3z hb1 hrep
  generalize W3.heap.size = g at *
  have hbc1 : w1.cell? ⟨W.heap.size + 1, 0, none⟩ = some (.slice none 0 0) := by rw [blk_cell hby1]; rfl
  have hbf1 := blk_frozen hby1 0
  gi_wp2_with fail
  have hB2 : Below W.heap.size W (w1.setCell ⟨W.heap.size + 1, 0, none⟩ (.slice (some ⟨g, 0, none⟩) n n)) := hB1.setCell (p := ⟨W.heap.size + 1, 0, none⟩) (by simp) _
  have hto2 : (w1.setCell ⟨W.heap.size + 1, 0, none⟩ (.slice (some ⟨g, 0, none⟩) n n)).heap[W.heap.size]? = _ := (Below.heap_setCell w1 ⟨W.heap.size + 1, 0, none⟩ _ W.heap.size (by simp)).trans hto1
  have hrow2 : (w1.setCell ⟨W.heap.size + 1, 0, none⟩ (.slice (some ⟨g, 0, none⟩) n n)).heap[g]? = _ := (Below.heap_setCell w1 ⟨W.heap.size + 1, 0, none⟩ _ g (by simp; omega)).trans hrow
  have hby2 : (w1.setCell ⟨W.heap.size + 1, 0, none⟩ (.slice (some ⟨g, 0, none⟩) n n)).heap[W.heap.size + 1]? = some (.cells #[.slice (some ⟨g, 0, none⟩) n n] 34 (0, 0)) := heap_setCell_same w1 (W.heap.size + 1) 0 _ _ _ hby1
  generalize w1.setCell ⟨W.heap.size + 1, 0, none⟩ (.slice (some ⟨g, 0, none⟩) n n) = w2 at *
  clear hbc1 hbf1 hto1 hby1 hrow hgz1 hB1
  have hbc2 : w2.cell? ⟨W.heap.size + 1, 0, none⟩ = some (.slice (some ⟨g, 0, none⟩) n n) := by rw [blk_cell hby2]; rfl
  have hpe2 : w2.cell? ⟨P, 0, none⟩ = some (.slice A l.length c) := (hB2.cell (p := ⟨P, 0, none⟩) hPz).trans hpe
  have hgs2 : w2.cell? ⟨g, s, none⟩ = some (.int .i64 (-1)) := by rw [blk_cell hrow2]; simp [hs]
  have hgf2 := blk_frozen hrow2 s
  have hll2 : (l.length : Int) ≤ 65536 := by omega
  refine wpIn_still_tail 9 (by rintro ⟨_, _, h⟩; obtain ⟨_, _, _, he, _⟩ := h; cases he) (by kernel_rfl) (by kernel_rfl) (by kernel_rfl) ?_
  simp only [List.take_succ_cons, List.take_zero, List.drop_succ_cons, List.drop_zero]
  repeat still_step
  try refine wpStill_nil ?_
  go_wp2_with fail
  have hB3 : Below W.heap.size W (w2.setCell ⟨g, s, none⟩ (.int .i64 (l.length * 2))).drew := (hB2.setCell (p := ⟨g, s, none⟩) (by simp; omega) _).drew
  have hto3 : (w2.setCell ⟨g, s, none⟩ (.int .i64 (l.length * 2))).drew.heap[W.heap.size]? = _ := (Below.heap_setCell w2 ⟨g, s, none⟩ _ W.heap.size (by simp; omega)).trans hto2
  have hby3 : (w2.setCell ⟨g, s, none⟩ (.int .i64 (l.length * 2))).drew.heap[W.heap.size + 1]? = _ := (Below.heap_setCell w2 ⟨g, s, none⟩ _ (W.heap.size + 1) (by simp; omega)).trans hby2
  have hrow3 : (w2.setCell ⟨g, s, none⟩ (.int .i64 (l.length * 2))).drew.heap[g]? = some (.cells ((((List.replicate n (-1 : Int)).set s ((2 * l.length : Nat) : Int))).map (Value.int .i64)).toArray 3 (0, 0)) := by
    have := heap_setCell_same w2 g s _ _ (.int .i64 (l.length * 2)) hrow2
    rw [show (w2.setCell ⟨g, s, none⟩ (.int .i64 (l.length * 2))).drew.heap = (w2.setCell ⟨g, s, none⟩ (.int .i64 (l.length * 2))).heap from rfl, this]
    rw [show ((l.length : Int) * 2) = ((2 * l.length : Nat) : Int) by omega]
    rw [List.map_set, ← List.setIfInBounds_toArray]
    all_goals first | (simp; done) | skip
  generalize (w2.setCell ⟨g, s, none⟩ (.int .i64 (l.length * 2))).drew = w3 at *
  clear hbc2 hpe2 hgs2 hgf2 hll2 hB2 hto2 hby2 hrow2 hpa hpe
  gi_wp2_with fail
  refine wpIn_label ?_
  gi_wp2_with fail
  have hb40 := alloc2_blk0 w3 (.cells #[.int .i64 s] 3) (.cells #[.slice (some ⟨w3.heap.size, 0, none⟩) 1 1] 34)
  have hb41 := alloc2_blk1 w3 (.cells #[.int .i64 s] 3) (.cells #[.slice (some ⟨w3.heap.size, 0, none⟩) 1 1] 34)
  have hb4 := below2 w3 (.cells #[.int .i64 s] 3) (.cells #[.slice (some ⟨w3.heap.size, 0, none⟩) 1 1] 34)
  have hg3 := (Array.getElem?_eq_some_iff.1 hrow3).1
  have hinv0 : SInv l F n s t W.heap.size g (w3.heap.size + 1) w3.heap.size ((w3.alloc (.cells #[.int .i64 s] 3)).alloc (.cells #[.slice (some ⟨w3.heap.size, 0, none⟩) 1 1] 34)) ((List.replicate n (-1 : Int)).set s ((2 * l.length : Nat) : Int)) [s] 0 w3.heap.size 0 1 :=
    ⟨(hb4.block _ (by omega)).trans hto3, (hb4.block _ (by omega)).trans hby3, (hb4.block _ hg3).trans hrow3, hb41, (QRow.one (Nat.le_refl _) s).below (below1 _ _), Reach.start l F hs, ⟨by omega, by omega, by omega⟩, by simp⟩
  have hB4 : Below W.heap.size W ((w3.alloc (.cells #[.int .i64 s] 3)).alloc (.cells #[.slice (some ⟨w3.heap.size, 0, none⟩) 1 1] 34)) := bthen hB3 hb4
  refine wpIn_loop_ghost_k (fun k a' W' => ∃ (bys : List Int) (vis : List Nat) (hd qg qoff qcap : Nat) (Ds : List Nat), k + hd = n ∧ SInv l F n s t W.heap.size g (w3.heap.size + 1) w3.heap.size W' bys vis hd qg qoff qcap ∧ t ∉ vis ∧ (∀ (j v r : Nat), j < hd → vis[j]? = some v → r < 2 * l.length → 0 < capR l F r → begR l r = v → ∃ u : Nat, u ∈ vis ∧ endR l r = u) ∧ Below W.heap.size W W' ∧ MarksOk W.heap.size W' Ds ∧ ∃ u1 u2 u3 u4 u8 u9 u10 u11 u12 u13 u14 u15 u16 u17 u18 u19 u20 u21 u22 u23 u24 u25 u26 u27 u28 u29 u30 u31 u32 u33 u34 u35 u36 u37 u38 u39 u40 u41 u42 u43 u44 u45 u46 u47 u48 u49 u50 u51 u52 u53 u54 u55 u56 u57 u58 : Value, a' = { tmps := #[.pointer (some ⟨P, 0, none⟩), u1, u2, u3, u4, .pointer (some ⟨W.heap.size, 0, none⟩), .pointer (some ⟨W.heap.size + 1, 0, none⟩), .pointer (some ⟨w3.heap.size + 1, 0, none⟩), u8, u9, u10, u11, u12, u13, u14, u15, u16, u17, u18, u19, u20, u21, u22, u23, u24, u25, u26, u27, u28, u29, u30, u31, u32, u33, u34, u35, u36, u37, u38, u39, u40, u41, u42, u43, u44, u45, u46, u47, u48, u49, u50, u51, u52, u53, u54, u55, u56, u57, u58], defers := marks Ds }) n ?start ?round
  case start =>
    exact ⟨_, [s], 0, _, _, _, [], rfl, hinv0, by simpa using (Ne.symm hst), fun j v r hj => by omega, hB4, ⟨by simp, by simp⟩, _, _, _, _, _, _, _, _, _, _, _, _, _, _, _, _, _, _, _, _, _, _, _, _, _, _, _, _, _, _, _, _, _, _, _, _, _, _, _, _, _, _, _, _, _, _, _, _, _, _, _, _, _, _, _, rfl⟩
  case round =>
    rintro k a' W' ⟨bys, vis, hd, qg, qoff, qcap, Ds, hk, inv, htv, hcl, hBW, hmk, u1, u2, u3, u4, u8, u9, u10, u11, u12, u13, u14, u15, u16, u17, u18, u19, u20, u21, u22, u23, u24, u25, u26, u27, u28, u29, u30, u31, u32, u33, u34, u35, u36, u37, u38, u39, u40, u41, u42, u43, u44, u45, u46, u47, u48, u49, u50, u51, u52, u53, u54, u55, u56, u57, u58, rfl⟩ J K hJ hK
    clear hinv0 hB4 hb40 hb41 hb4 hto3 hby3 hrow3
    have hqc := inv.qc
    have hqcell : W'.cell? ⟨w3.heap.size + 1, 0, none⟩ = some (.slice (some ⟨qg, qoff, none⟩) (vis.length - hd) qcap) := by rw [blk_cell hqc]; rfl
    have hqfr := blk_frozen hqc 0
    have hvn := inv.reach.vis_le
    by_cases hq : hd < vis.length
    · obtain ⟨v, hv⟩ : ∃ v, vis[hd]? = some v := ⟨_, List.getElem?_eq_getElem hq⟩
      have hdrop : vis.drop hd = v :: vis.drop (hd + 1) := by
        have h2 := (List.getElem?_eq_some_iff.1 hv).2
        rw [← h2, List.getElem_cons_drop]
      have hqr := inv.q
      rw [hdrop, List.map_cons] at hqr
      have hq0 := hqr.cell (i := 0) rfl
      rw [Nat.add_zero] at hq0
      have hvcell : W'.cell? ⟨qg, qoff, none⟩ = some (.int .i64 v) := hq0
      have hqt := hqr.tail
      have hlen1 : vis.length - hd ≤ qcap := by have := inv.q.len; simpa using this
      have hmx := inv.q.max
      have hl1 : 0 < vis.length - hd := by omega
      have hl2 : (0 : Int) < ((vis.length - hd : Nat) : Int) := by omega
      clear hq0 hdrop hqr
      obtain ⟨m, hm⟩ : ∃ m, m = vis.length - hd := ⟨_, rfl⟩
      rw [← hm] at hqcell hlen1 hl1 hl2
      have hcap1 : 1 ≤ qcap := by omega
      have HM : Hid (m = vis.length - hd) := hm
      clear hm
      have htail : ∃ qo qc, QRow w3.heap.size W' qg qo qc ((vis.drop (hd + 1)).map Int.ofNat) ∧ (if qcap = 1 then Value.slice (some ⟨qg, qoff, none⟩) (m - 1) 0 else Value.slice (some ⟨qg, qoff + 1, none⟩) (m - 1) (qcap - 1)) = Value.slice (some ⟨qg, qo, none⟩) (m - 1) qc := by
        by_cases hc1 : qcap = 1
        · rw [if_pos hc1] at hqt ⊢; exact ⟨_, _, hqt, by rw [hc1]⟩
        · rw [if_neg hc1] at hqt ⊢; exact ⟨_, _, hqt, rfl⟩
      obtain ⟨qo, qc, hqn, hqv⟩ := htail
      have HV : Hid (_ = Value.slice (some ⟨qg, qo, none⟩) (m - 1) qc) := hqv
      clear hqt hqv
      gi_upto_region 6 with fail
      refine wpIn_cut (fun a2 W2 => W2 = W'.setCell ⟨w3.heap.size + 1, 0, none⟩ (.slice (some ⟨qg, qo, none⟩) (m - 1) qc) ∧ ∃ u1 u2 u3 u4 u9 u10 u11 u12 u13 u14 u15 u16 u17 u18 u19 u20 u21 u22 u23 u24 u25 u26 u27 u28 u29 u30 u31 u32 u33 u34 u35 u36 u37 u38 u39 u40 u41 u42 u43 u44 u45 u46 u47 u48 u49 u50 u51 u52 u53 u54 u55 u56 u57 u58 : Value, a2 = { tmps := #[.pointer (some ⟨P, 0, none⟩), u1, u2, u3, u4, .pointer (some ⟨W.heap.size, 0, none⟩), .pointer (some ⟨W.heap.size + 1, 0, none⟩), .pointer (some ⟨w3.heap.size + 1, 0, none⟩), .int .i64 v, u9, u10, u11, u12, u13, u14, u15, u16, u17, u18, u19, u20, u21, u22, u23, u24, u25, u26, u27, u28, u29, u30, u31, u32, u33, u34, u35, u36, u37, u38, u39, u40, u41, u42, u43, u44, u45, u46, u47, u48, u49, u50, u51, u52, u53, u54, u55, u56, u57, u58], defers := marks Ds }) ?rest ?first
      case first =>
        intro J2 K2 hJ2 hK2
        gi_wp2_with fail
        · refine Met.intro (hJ2 _ _ ⟨?_, _, _, _, _, _, _, _, _, _, _, _, _, _, _, _, _, _, _, _, _, _, _, _, _, _, _, _, _, _, _, _, _, _, _, _, _, _, _, _, _, _, _, _, _, _, _, _, _, _, _, _, _, _, _, rfl⟩)
          have hv2 := HV.out
          rw [if_pos (by assumption)] at hv2
          rw [hv2]
        · refine Met.intro (hJ2 _ _ ⟨?_, _, _, _, _, _, _, _, _, _, _, _, _, _, _, _, _, _, _, _, _, _, _, _, _, _, _, _, _, _, _, _, _, _, _, _, _, _, _, _, _, _, _, _, _, _, _, _, _, _, _, _, _, _, _, rfl⟩)
          have hv2 := HV.out
          rw [if_neg (by assumption)] at hv2
          rw [hv2]
      case rest =>
        rintro a2 W2 ⟨hW2, u1, u2, u3, u4, u9, u10, u11, u12, u13, u14, u15, u16, u17, u18, u19, u20, u21, u22, u23, u24, u25, u26, u27, u28, u29, u30, u31, u32, u33, u34, u35, u36, u37, u38, u39, u40, u41, u42, u43, u44, u45, u46, u47, u48, u49, u50, u51, u52, u53, u54, u55, u56, u57, u58, rfl⟩
        have inv2 := inv.pop hqn hq
        rw [← HM.out, ← hW2] at inv2
        have hBW2 : Below W.heap.size W W2 := by rw [hW2]; exact hBW.setCell (p := ⟨w3.heap.size + 1, 0, none⟩) (by have := hB3.size; simp; omega) _
        have hmk2 : MarksOk W.heap.size W2 Ds := hmk.keep fun b o ho hc _ => by rw [hW2]; exact (KeepsOthers.setCell W' _ _).same b o ho hc
        clear hW2 hqn HV inv hBW hmk hqcell hqfr hqc hvcell hlen1 hmx hl1 hl2 hcap1 HM
        have hvlt : v < n := inv2.reach.lt v (List.mem_of_getElem? hv)
        gi_wp2_with fail
        refine ⟨trivial, ?_⟩
        refine (callsIn_wide.2 (usable_c P v W2)).mono ?_
        rintro e w5 ⟨rfl, hw5⟩
        have hBw5 : Below W2.heap.size W2 w5 := by rw [hw5]; exact below2 _ _ _
        have hz5 : w5.heap.size = W2.heap.size + 1 + 1 := by rw [hw5]; simp
        have hcw5 : w5.heap[W2.heap.size]? = some (.cells #[.pointer (some ⟨P, 0, none⟩)] 140 (0, 0)) := by rw [hw5]; exact alloc2_blk0 W2 _ _
        have hcn5 : w5.cell? ⟨W2.heap.size + 1, 0, none⟩ = some (.int .i64 v) := by rw [hw5, blk_cell (alloc2_blk1 W2 _ _)]; rfl
        have inv5 := inv2.keepC (KeepC.of_below hBw5)
        have hB5 : Below W.heap.size W w5 := bthen hBW2 hBw5
        have hmk5 : MarksOk W.heap.size w5 Ds := hmk2.keep fun b o ho _ _ => (hBw5.block b (Array.getElem?_eq_some_iff.1 ho).1).trans ho
        have hNW : N ≤ W2.heap.size := Nat.le_trans hN hBW2.size
        have net5 : Net N n w5 P FB AB A c l F := net.below (hB5.mono hN)
        have hQz2 := (Array.getElem?_eq_some_iff.1 inv2.qc).1
        clear hw5 inv2 hmk2
        obtain ⟨ls, hls⟩ : ∃ ls : List (ResP l F v), ls.map (·.1) = useL l F v := exists_sub (fun r hr => mem_useL.1 hr)
        have hsq := usable_stops 9 (by omega) W2.heap.size (W2.heap.size + 1) N W2.heap.size n P FB AB A c l F v hvlt ls hls w5 net5 ok m30 hn hll hNW (Nat.le_refl _) (by omega) hcw5 hcn5
        clear hcw5 hcn5
        gi_wp2_with fail
        refine wpIn_rangeFunc_ownG rfl (by omega) (gf := 178) (lb := #[.pointer (some ⟨W2.heap.size, 0, none⟩), .pointer (some ⟨W2.heap.size + 1, 0, none⟩)]) rfl trivial (enters_of Tryz.func178 (by kernel_rfl) rfl)
          hsq kp_t (kp_b (by omega)) (Below.refl _ _) (fun _ => rfl)
          (fun pre Wx => (∃ (bys2 : List Int) (vis2 : List Nat) (qg2 qo2 qc2 : Nat), SInv l F n s t W.heap.size g (w3.heap.size + 1) w3.heap.size Wx bys2 vis2 (hd + 1) qg2 qo2 qc2 ∧ t ∉ vis2 ∧ (∃ more, vis2 = vis ++ more) ∧ (∀ x : ResP l F v, x ∈ pre → ∃ u : Nat, u ∈ vis2 ∧ endR l x.1 = u)) ∧ MarksOk W.heap.size Wx Ds ∧ Below W.heap.size W Wx)
          (fun c _ Wx => c = .exit 0 ∧ (∃ (bys2 : List Int) (vis2 : List Nat), t ∈ vis2 ∧ Reach l F n s bys2 vis2 ∧ Wx.heap[W.heap.size + 1]? = some (.cells #[.slice (some ⟨g, 0, none⟩) n n] 34 (0, 0)) ∧ Wx.heap[g]? = some (.cells (bys2.map (Value.int .i64)).toArray 3 (0, 0))) ∧ MarksOk W.heap.size Wx Ds ∧ Below W.heap.size W Wx)
          (fun pre Wx W' row hI hg hr => ?own)
          (fun c pre Wx W' row hI hg hr => ?ownx)
          ⟨⟨bys, vis, qg, qo, qc, inv5, htv, ⟨[], by simp⟩, by simp⟩, hmk5, hB5⟩
          ?a1 ?assign ?body ?done ?stop
        case own =>
          obtain ⟨⟨bys2, vis2, qg2, qo2, qc2, i2, t2, m2, a2⟩, k2, b2⟩ := hI
          exact ⟨⟨bys2, vis2, qg2, qo2, qc2, i2.keepC (KeepC.book hg fun r e => (hr r e).2), t2, m2, a2⟩, ⟨k2.nod, fun D hD => ⟨(k2.blk D hD).1, (hg.block D (Array.getElem?_eq_some_iff.1 (k2.blk D hD).2).1 (fun q => by have := (hr D q.symm).1; have := (Array.getElem?_eq_some_iff.1 (hmk5.blk D hD).2).1; omega)).trans (k2.blk D hD).2⟩⟩, b2.grown hg b2.size (fun r e => by have := (hr r e).1; have := hB5.size; omega)⟩
        case ownx =>
          obtain ⟨h1, ⟨bys2, vis2, t2, r2, h2, h3⟩, k2, b2⟩ := hI
          have kc := KeepC.book hg fun r e => (hr r e).2
          exact ⟨h1, ⟨bys2, vis2, t2, r2, kc _ _ _ _ h2, kc _ _ _ _ h3⟩, ⟨k2.nod, fun D hD => ⟨(k2.blk D hD).1, (hg.block D (Array.getElem?_eq_some_iff.1 (k2.blk D hD).2).1 (fun q => by have := (hr D q.symm).1; have := (Array.getElem?_eq_some_iff.1 (hmk5.blk D hD).2).1; omega)).trans (k2.blk D hD).2⟩⟩, b2.grown hg b2.size (fun r e => by have := (hr r e).1; have := hB5.size; omega)⟩
        case assign =>
          intro l0 x Wx K hK
          gi_wp2
          exact hK
        case body =>
          rintro l0 pre ⟨x, hx⟩ Wx ⟨⟨bys2, vis2, qg2, qo2, qc2, i2, t2, ⟨more, m2⟩, a2⟩, k2, b2⟩ hpl
          obtain ⟨pre', hpre'⟩ : ∃ pre' : List (ResP l F v), pre' = pre ++ [⟨x, hx⟩] := ⟨_, rfl⟩
          rw [← hpre']
          have HP : Hid (∀ z : ResP l F v, z ∈ pre' → z ∈ pre ∨ z.1 = x) := fun z hz => by
            rw [hpre', List.mem_append, List.mem_singleton] at hz
            rcases hz with hz | rfl
            · exact .inl hz
            · exact .inr rfl
          clear hpre'
          obtain ⟨hx1, hx2, hx3⟩ := hx
          obtain ⟨u, hu, hun⟩ : ∃ u : Nat, endR l x = u ∧ u < n := by
            obtain ⟨⟨e1, e2⟩, _⟩ := nodes_end hin hx1
            exact ⟨(endR l x).toNat, by omega, by omega⟩
          have hlen2 := i2.reach.len
          obtain ⟨y, hy⟩ : ∃ y, bys2[u]? = some y := ⟨_, List.getElem?_eq_getElem (by omega)⟩
          have hbyc : Wx.cell? ⟨W.heap.size + 1, 0, none⟩ = some (.slice (some ⟨g, 0, none⟩) n n) := by rw [blk_cell i2.byc]; rfl
          have hyc : Wx.cell? ⟨g, u, none⟩ = some (.int .i64 y) := by rw [blk_cell i2.row]; simp [hy]
          have hyf := blk_frozen i2.row u
          have hmem := i2.reach.mem hun hy
          have hvm : v ∈ vis2 := by rw [m2]; exact List.mem_append_left _ (List.mem_of_getElem? hv)
          have hu0 : (0 : Int) ≤ u := by omega
          have hu1 : (u : Int) < n := by omega
          have HU : Hid (endR l x = u) := hu
          have HB : Hid (begR l x = v) := hx2
          have HY : Hid (bys2[u]? = some y) := hy
          have HL2 : Hid (bys2.length = n) := hlen2
          have HM2 : Hid (vis2 = vis ++ more) := m2
          dsimp only
          rw [hu]
          clear hu hx2 hy hlen2 m2 hsq hls hcl hv
          by_cases hy0 : 0 ≤ y
          · have hum := hmem.2 hy0
            clear hmem
            gi_wp2
            refine ⟨KeepsFrom.refl _ _, KP.refl _ _ _ _, ⟨⟨bys2, vis2, qg2, qo2, qc2, i2, t2, ⟨more, HM2.out⟩, ?_⟩, k2, b2⟩⟩
            intro z hz
            rcases HP.out z hz with hz | hz
            · exact a2 z hz
            · rw [hz]; exact ⟨u, hum, HU.out⟩
          · have hum : u ∉ vis2 := fun q => hy0 (hmem.1 q)
            have hr2 := i2.reach.step hun hum hvm hx1 hx3 HU.out HB.out
            obtain ⟨f1, f2, f3, f4, f5⟩ := i2.found u (x : Int)
            clear hmem
            gi_upto_region 12 with fail
            obtain ⟨W1, hW1⟩ : ∃ W1, W1 = Wx.setCell ⟨g, u, none⟩ (.int .i64 x) := ⟨_, rfl⟩
            obtain ⟨o1, o2, o3⟩ := i2.ord
            have hgN : N ≤ g := by omega
            have hk1 : KeepsOthers Wx W1 := by rw [hW1]; exact KeepsOthers.setCell _ _ _
            have hb1 : Below N Wx W1 := by rw [hW1]; exact (Below.refl _ _).setCell (p := ⟨g, u, none⟩) hgN _
            have hkt1 : KeepT netS W2.heap.size Wx W1 := by rw [hW1]; exact (KeepT.refl _ _ _).setCell (p := ⟨g, u, none⟩) (by simp; omega) _
            have hB1 : Below W.heap.size W W1 := by rw [hW1]; exact b2.setCell (p := ⟨g, u, none⟩) (by simp; omega) _
            have hmk1 : MarksOk W.heap.size W1 Ds := k2.keep fun b o ho hc _ => hk1.same b o ho hc
            rw [← hW1] at f1 f2 f3 f4 f5 ⊢
            have HW1 : Hid (W1 = Wx.setCell ⟨g, u, none⟩ (.int .i64 x)) := hW1
            clear hW1 hbyc hyc hyf hmk5
            have hto1 : W1.cell? ⟨W.heap.size, 0, none⟩ = some (.int .i64 t) := by rw [blk_cell f3]; rfl
            by_cases hut : u = t
            · have hui : (u : Int) = (t : Int) := by omega
              gi_wp2
              exact ⟨hk1.from _, rfl, ⟨_, _, by rw [hut]; simp, hr2, f1, f2⟩, hmk1, hB1⟩
            · have hui : ¬ (u : Int) = (t : Int) := by omega
              obtain ⟨L, hL⟩ : ∃ L, L = vis2.length - (hd + 1) := ⟨_, rfl⟩
              have hql : ((vis2.drop (hd + 1)).map Int.ofNat).length = L := by rw [hL]; simp
              have hvl := hr2.vis_le
              have hL4 : L < 100000 := by rw [List.length_append] at hvl; omega
              have hf4 := f4
              rw [← hL] at hf4
              have hQ1 : W1.cell? ⟨w3.heap.size + 1, 0, none⟩ = some (.slice (some ⟨qg2, qo2, none⟩) L qc2) := by rw [blk_cell hf4]; rfl
              have hqne := i2.qne
              have hHL : Hid (L = vis2.length - (hd + 1)) := hL
              have hHql : Hid (((vis2.drop (hd + 1)).map Int.ofNat).length = L) := hql
              have hQz1 := (Array.getElem?_eq_some_iff.1 hf4).1
              have hqz1 := f5.lt
              clear hL hql hf4
              gi_wp2_with (gi_at_builtin; refine stopHere ?_)
              unfold Stopped
              refine wpListIn_appendQ rfl _ _ rfl (f5.below (below1 _ _)) (by simp <;> omega) (by rw [hHql.out]; rfl) _ (u : Int) rfl (by simp) (by rw [hHql.out]; omega) ?_
              intro g' off' cap' w6 hq6 hg6 hor
              rw [hHql.out]
              have hQ6 : w6.heap[w3.heap.size + 1]? = some (.cells #[.slice (some ⟨qg2, qo2, none⟩) L qc2] 34 (0, 0)) := by
                rw [hHL.out]
                exact (hg6.block _ (by simp; omega) (by simp; omega)).trans ((Below.heap_alloc W1 _ _ hQz1).trans f4)
              have hQc6 : w6.cell? ⟨w3.heap.size + 1, 0, none⟩ = some (.slice (some ⟨qg2, qo2, none⟩) L qc2) := by rw [blk_cell hQ6]; rfl
              have hQf6 := blk_frozen hQ6 0
              have hqr6 : ∀ k, some qg2 = some k → ∃ c e f, (W1.alloc (.cells #[.int .i64 (u : Int)] 3)).heap[k]? = some (Obj.cells c e f) ∧ e ∉ netS := fun k e => by
                cases e
                obtain ⟨cur, h1, _⟩ := f5.blk
                exact ⟨cur, _, _, (Below.heap_alloc W1 _ _ hqz1).trans h1, by decide⟩
              have hk6 : KeepsOthers (W1.alloc (.cells #[.int .i64 (u : Int)] 3)) w6 := ⟨hg6.size, fun k o hk ho => (hg6.block k (Array.getElem?_eq_some_iff.1 hk).1 (fun q => by obtain ⟨c, e, f, h1, _⟩ := hqr6 k q.symm; rw [h1] at hk; cases hk; cases ho)).trans hk⟩
              have hN1 : N ≤ W1.heap.size := by omega
              have hqN : w3.heap.size ≤ qg2 := f5.hg
              gi_wp2
              have hkA := ((hk1.trans (KeepsOthers.alloc _ (.cells #[.int .i64 (u : Int)] 3))).trans hk6).trans (KeepsOthers.setCell w6 ⟨w3.heap.size + 1, 0, none⟩ (.slice (some ⟨g', off', none⟩) (L + 1) cap'))
              refine ⟨hkA.from _, ⟨((hb1.alloc hN1 _).grown hg6 (by simp; omega) (fun k e => by cases e; omega)).setCell (p := ⟨w3.heap.size + 1, 0, none⟩) (by simp; omega) _, ((hkt1.alloc _).grown hg6 hqr6).setCell (p := ⟨w3.heap.size + 1, 0, none⟩) (by simp; omega) _⟩, ⟨⟨bys2.set u (x : Int), vis2 ++ [u], g', off', cap', ?_, ?_, ⟨more ++ [u], by rw [HM2.out]; simp⟩, ?_⟩, k2.keep fun b o ho hc _ => hkA.same b o ho hc, ((hB1.alloc (by omega) _).grown hg6 (by simp; omega) (fun k e => by cases e; omega)).setCell (p := ⟨w3.heap.size + 1, 0, none⟩) (by simp; omega) _⟩⟩
              · have hpush := SInv.push i2 HW1.out hr2 hq6 hg6 (by have := (Array.getElem?_eq_some_iff.1 i2.qc).1; exact this)
                rw [← hHL.out] at hpush
                exact hpush
              · rw [List.mem_append, List.mem_singleton]
                rintro (q | q)
                · exact t2 q
                · exact hut q.symm
              · intro z hz
                rcases HP.out z hz with hz | hz
                · obtain ⟨u2, h1, h2⟩ := a2 z hz
                  exact ⟨u2, List.mem_append_left _ h1, h2⟩
                · rw [hz]; exact ⟨u, by simp, HU.out⟩
        case done =>
          rintro D ys Wx hD rfl ⟨⟨bys2, vis2, qg2, qo2, qc2, i2, t2, ⟨more, m2⟩, a2⟩, k2, b2⟩ hKd
          have hcl2 : ∀ (j v2 r : Nat), j < hd + 1 → vis2[j]? = some v2 → r < 2 * l.length → 0 < capR l F r → begR l r = v2 → ∃ u : Nat, u ∈ vis2 ∧ endR l r = u := by
            intro j v2 r hj hv2 h1 h2 h3
            rw [m2, List.getElem?_append_left (by omega)] at hv2
            by_cases hjd : j < hd
            · obtain ⟨u, hu, he⟩ := hcl j v2 r hjd hv2 h1 h2 h3
              exact ⟨u, by rw [m2]; exact List.mem_append_left _ hu, he⟩
            · obtain rfl : j = hd := by omega
              rw [hv] at hv2
              cases hv2
              have hru : r ∈ useL l F v := mem_useL.2 ⟨h1, h3, h2⟩
              rw [← hls] at hru
              obtain ⟨z, hz, hzr⟩ := List.mem_map.1 hru
              have := a2 z hz
              rw [hzr] at this
              exact this
          have hmkD : MarksOk W.heap.size Wx (D :: Ds) := ⟨List.nodup_cons.2 ⟨fun q => by have := (Array.getElem?_eq_some_iff.1 (hmk5.blk D q).2).1; omega, k2.nod⟩, fun E hE => by
            rcases List.mem_cons.1 hE with rfl | hE
            · exact ⟨by have := hB5.size; omega, hKd⟩
            · exact k2.blk E hE⟩
          have HC2 : Hid _ := hcl2
          clear hcl2 hsq hls hcl hv hmk5 m2 a2 k2 hKd
          gi_wp2_with fail
          refine Handed.intro (k - 1) (by omega) (hJ _ _ _ ⟨bys2, vis2, hd + 1, qg2, qo2, qc2, D :: Ds, by omega, i2, t2, HC2.out, b2, hmkD, _, _, _, _, _, _, _, _, _, _, _, _, _, _, _, _, _, _, _, _, _, _, _, _, _, _, _, _, _, _, _, _, _, _, _, _, _, _, _, _, _, _, _, _, _, _, _, _, _, _, _, _, _, _, _, rfl⟩)
        case stop =>
          rintro D c pre Wx hD hSp ⟨rfl, ⟨bys2, vis2, t2, r2, h2, h3⟩, k2, b2⟩ hKd
          have hmkD : MarksOk W.heap.size Wx (D :: Ds) := ⟨List.nodup_cons.2 ⟨fun q => by have := (Array.getElem?_eq_some_iff.1 (hmk5.blk D q).2).1; omega, k2.nod⟩, fun E hE => by
            rcases List.mem_cons.1 hE with rfl | hE
            · exact ⟨by have := hB5.size; omega, hKd⟩
            · exact k2.blk E hE⟩
          have hbyc : Wx.cell? ⟨W.heap.size + 1, 0, none⟩ = some (.slice (some ⟨g, 0, none⟩) n n) := by rw [blk_cell h2]; rfl
          have hbyf := blk_frozen h2 0
          clear hsq hls hcl hv hmk5 k2 hKd
          gi_wp2_with fail
          have hs2 : (Wx.setCell ⟨W.heap.size + 1, 0, none⟩ (.slice (some ⟨g, 0, none⟩) n n)).heap[W.heap.size + 1]? = some (.cells #[.slice (some ⟨g, 0, none⟩) n n] 34 (0, 0)) := heap_setCell_same Wx (W.heap.size + 1) 0 _ _ _ h2
          have hs3 : (Wx.setCell ⟨W.heap.size + 1, 0, none⟩ (.slice (some ⟨g, 0, none⟩) n n)).heap[g]? = _ := (Below.heap_setCell Wx ⟨W.heap.size + 1, 0, none⟩ _ g (by simp; omega)).trans h3
          have hmkE : MarksOk W.heap.size (Wx.setCell ⟨W.heap.size + 1, 0, none⟩ (.slice (some ⟨g, 0, none⟩) n n)) (D :: Ds) := hmkD.keep fun b o ho hc _ => (KeepsOthers.setCell Wx _ _).same b o ho hc
          have hbl : Below W.heap.size W (Wx.setCell ⟨W.heap.size + 1, 0, none⟩ (.slice (some ⟨g, 0, none⟩) n n)) := b2.setCell (p := ⟨W.heap.size + 1, 0, none⟩) (by simp) _
          refine leaves_marks (h := W.heap.size) (D :: Ds) _ hmkE (fun Wz hbz hcz => ?_)
          have hzb := hcz _ _ hs2 rfl
          have hzr := hcz _ _ hs3 rfl
          have hzc : Wz.cell? ⟨W.heap.size + 1, 0, none⟩ = some (.slice (some ⟨g, 0, none⟩) n n) := by rw [blk_cell hzb]; rfl
          exact ⟨.slice (some ⟨g, 0, none⟩) n n, by simp [results, Tryz.results86, go_sem, hzc], ⟨g, bys2, vis2, rfl, by omega, hzr, r2, fun q => absurd t2 q, hbl.trans hbz⟩⟩
    · have hde : hd = vis.length := by have := inv.hd_le; omega
      have hlen0 : vis.length - hd = 0 := by omega
      rw [hlen0] at hqcell
      have hbyc : W'.cell? ⟨W.heap.size + 1, 0, none⟩ = some (.slice (some ⟨g, 0, none⟩) n n) := by rw [blk_cell inv.byc]; rfl
      have hbyf := blk_frozen inv.byc 0
      have h2 := inv.byc
      have h3 := inv.row
      have hr := inv.reach
      have hclos : t ∉ vis → ∀ (v r : Nat), v ∈ vis → r < 2 * l.length → 0 < capR l F r → begR l r = v → ∃ u : Nat, u ∈ vis ∧ endR l r = u := fun _ v r hv h1 h2 h3 => by
        obtain ⟨j, hj⟩ := List.mem_iff_getElem?.1 hv
        exact hcl j v r (by have := (List.getElem?_eq_some_iff.1 hj).1; omega) hj h1 h2 h3
      have HCL : Hid _ := hclos
      clear hclos hde hlen0 hcl
      gi_wp2_with fail
      have hs2 : (W'.setCell ⟨W.heap.size + 1, 0, none⟩ (.slice (some ⟨g, 0, none⟩) n n)).heap[W.heap.size + 1]? = some (.cells #[.slice (some ⟨g, 0, none⟩) n n] 34 (0, 0)) := heap_setCell_same W' (W.heap.size + 1) 0 _ _ _ h2
      have hs3 : (W'.setCell ⟨W.heap.size + 1, 0, none⟩ (.slice (some ⟨g, 0, none⟩) n n)).heap[g]? = _ := (Below.heap_setCell W' ⟨W.heap.size + 1, 0, none⟩ _ g (by simp; omega)).trans h3
      have hmkE : MarksOk W.heap.size (W'.setCell ⟨W.heap.size + 1, 0, none⟩ (.slice (some ⟨g, 0, none⟩) n n)) Ds := hmk.keep fun b o ho hc _ => (KeepsOthers.setCell W' _ _).same b o ho hc
      have hbl : Below W.heap.size W (W'.setCell ⟨W.heap.size + 1, 0, none⟩ (.slice (some ⟨g, 0, none⟩) n n)) := hBW.setCell (p := ⟨W.heap.size + 1, 0, none⟩) (by simp) _
      refine leaves_marks (h := W.heap.size) Ds _ hmkE (fun Wz hbz hcz => ?_)
      have hzb := hcz _ _ hs2 rfl
      have hzr := hcz _ _ hs3 rfl
      have hzc : Wz.cell? ⟨W.heap.size + 1, 0, none⟩ = some (.slice (some ⟨g, 0, none⟩) n n) := by rw [blk_cell hzb]; rfl
      exact ⟨.slice (some ⟨g, 0, none⟩) n n, by simp [results, Tryz.results86, go_sem, hzc], ⟨g, bys, vis, rfl, by omega, hzr, hr, HCL.out, hbl.trans hbz⟩⟩
end Go.Proofs.YtaiibchadlaifaaGreatDoor

namespace Go.Proofs.YtaiibchadlaifaaGreatDoor
open Go.RowKit Go.Shelf

theorem FNet.drewN {W : World} {P FB : Nat} {A : Option Addr} {c : Nat} {l : List Edge} {F : List Int} (h : FNet W P FB A c l F) (m : Nat) : FNet (W.drewN m) P FB A c l F := ⟨h.e, h.f, h.blk, h.len, h.rd.below (below_drewN _ _)⟩

set_option maxRecDepth 100000 in
set_option maxHeartbeats 4000000 in
theorem max2_c (W : World) (P FB : Nat) (A : Option Addr) (c : Nat) (l : List Edge) (F : List Int) (r : Nat) (h : FNet W P FB A c l F) (ok : okF l F) (m30 : ∀ e, e ∈ l → e.m ≤ 1073741824) (hr : r < 2 * l.length) (bl bw : Nat) (L : Int)
    (hbl : W.cell? ⟨bl, 0, none⟩ = some (.int .i64 L)) (hfl : W.frozen? ⟨bl, 0, none⟩ = false) (hbw : W.cell? ⟨bw, 0, none⟩ = some (.pointer (some ⟨P, 0, none⟩))) :
    Calls Tryz.prog 89 #[.int .i64 r, .pointer (some ⟨bl, 0, none⟩), .pointer (some ⟨bw, 0, none⟩)] W fun e w' => (∃ v, e = .returned v) ∧ ∃ m, w' = (W.drewN m).setCell ⟨bl, 0, none⟩ (.int .i64 (min L (capR l F r))) := by
  have hc := fun m => flow_capacity_c (W.drewN m) P FB A c l F r (h.drewN m) ok m30 hr
  obtain ⟨q, hq⟩ : ∃ q, q = capR l F r := ⟨_, rfl⟩
  rw [← hq] at hc ⊢
  clear hq h
  go_enter Tryz.func89, Tryz.ntmps89
  go_wp2_with fail
  go_region_with (go_at_call 90; refine (hc 1).mono ?_; rintro e w1 ⟨rfl, m, rfl⟩)
  all_goals
    rw [show (if q < L then q else L) = min L q by split <;> omega]
    go_end0
    exact ⟨⟨_, rfl⟩, _, rfl⟩

set_option maxRecDepth 100000 in
set_option maxHeartbeats 4000000 in
theorem max3_c (W : World) (P FB : Nat) (A : Option Addr) (c : Nat) (l : List Edge) (F : List Int) (r : Nat) (d : Int) (h : FNet W P FB A c l F) (hr : r < 2 * l.length) (hd0 : 0 ≤ d) (hd1 : d ≤ 1073741824) (hF : ∀ x, x ∈ F → 0 ≤ x ∧ x ≤ 1073741824) (bl bw : Nat)
    (hbl : W.cell? ⟨bl, 0, none⟩ = some (.int .i64 d)) (hbw : W.cell? ⟨bw, 0, none⟩ = some (.pointer (some ⟨P, 0, none⟩))) :
    Calls Tryz.prog 91 #[.int .i64 r, .pointer (some ⟨bw, 0, none⟩), .pointer (some ⟨bl, 0, none⟩)] W fun e w' => (∃ v, e = .returned v) ∧ w' = W.setCell ⟨FB, r / 2, none⟩ (.int .i64 ((F[r / 2]?).getD 0 + (if r % 2 = 0 then d else -d))) := by
  have hc := flow_push_c W P FB A c l F r d h hr hd0 hd1 hF
  generalize W.setCell ⟨FB, r / 2, none⟩ (.int .i64 ((F[r / 2]?).getD 0 + (if r % 2 = 0 then d else -d))) = W2 at *
  clear h hr hF hd0 hd1
  go_enter Tryz.func91, Tryz.ntmps91
  go_wp2_with (go_at_call 92; refine hc.mono ?_; rintro e w1 ⟨⟨v, rfl⟩, rfl⟩)
  go_end0
  exact ⟨⟨_, rfl⟩, rfl⟩

theorem bits_xor_i64_nat (a b : Nat) (ha : a < 4611686018427387904) (hb : b < 4611686018427387904) :
    bits .xor .i64 (a : Int) (b : Int) = ((a ^^^ b : Nat) : Int) := by
  have hx : a ^^^ b < 2 ^ 62 := Nat.xor_lt_two_pow (by omega) (by omega)
  have h1 : (BitVec.ofInt 64 (a : Int)).toNat = a := by
    rw [BitVec.ofInt_natCast, BitVec.toNat_ofNat]; exact Nat.mod_eq_of_lt (by omega)
  have h2 : (BitVec.ofInt 64 (b : Int)).toNat = b := by
    rw [BitVec.ofInt_natCast, BitVec.toNat_ofNat]; exact Nat.mod_eq_of_lt (by omega)
  show IntKind.i64.wrap ((BitVec.ofInt 64 (a : Int) ^^^ BitVec.ofInt 64 (b : Int)).toNat : Int) = _
  rw [BitVec.toNat_xor, h1, h2, IntKind.wrap_i64]
  omega
theorem xor_one (r : Nat) (h : r < 4294967296) : ∃ r' : Nat, bits .xor .i64 (r : Int) 1 = r' ∧ r' / 2 = r / 2 ∧ r' % 2 ≠ r % 2 := by
  refine ⟨r ^^^ 1, bits_xor_i64_nat r 1 (by omega) (by omega), ?_, ?_⟩
  · have := @Nat.xor_div_two r 1
    simpa using this
  · have := @Nat.xor_mod_two_eq_one r 1
    have h1 : (1 : Nat) % 2 = 1 := rfl
    rw [h1] at this
    omega
theorem split_len {p q p2 : List Nat} {r : Nat} (h : p = q ++ r :: p2) : p = (q ++ [r]) ++ p2 := by rw [h]; simp

set_option maxRecDepth 100000 in
set_option maxHeartbeats 4000000 in
/-- along: 'do' at each residual edge of the path back, in order; J q: what holds when it was done at q. -/
theorem along2_c (P FB : Nat) (A : Option Addr) (c : Nat) (l : List Edge) (bys : List Int) (s t g n : Nat) (bt bf bw bb bl : Nat) (hll : l.length ≤ 65536) (hn : n ≤ 4096) (J : List Nat → World → Prop) (p : List Nat) (W : World)
    (hp : Chain l bys s t p) (hpl : ∀ r, r ∈ p → r < 2 * l.length) (hbl : bys.length = n)
    (hread : ∀ q Wx, J q Wx → Wx.cell? ⟨bt, 0, none⟩ = some (.int .i64 t) ∧ Wx.cell? ⟨bf, 0, none⟩ = some (.int .i64 s) ∧ Wx.cell? ⟨bw, 0, none⟩ = some (.pointer (some ⟨P, 0, none⟩)) ∧ Wx.cell? ⟨bb, 0, none⟩ = some (.slice (some ⟨g, 0, none⟩) n n) ∧ Wx.heap[g]? = some (.cells (bys.map (Value.int .i64)).toArray 3 (0, 0)) ∧ ∃ F, FNet Wx P FB A c l F)
    (hdrew : ∀ q Wx m, J q Wx → J q (Wx.drewN m))
    (hdo : ∀ (q : List Nat) (r : Nat) (q' : List Nat) (Wx : World), p = q ++ r :: q' → J q Wx → Calls Tryz.prog 89 #[.int .i64 (r : Int), .pointer (some ⟨bl, 0, none⟩), .pointer (some ⟨bw, 0, none⟩)] Wx fun e w' => (∃ v, e = .returned v) ∧ J (q ++ [r]) w') (h0 : J [] W) :
    Calls Tryz.prog 87 #[.func (.func 89) #[] #[.pointer (some ⟨bl, 0, none⟩), .pointer (some ⟨bw, 0, none⟩)], .pointer (some ⟨bt, 0, none⟩), .pointer (some ⟨bf, 0, none⟩), .pointer (some ⟨bw, 0, none⟩), .pointer (some ⟨bb, 0, none⟩)] W fun e w' => (∃ v, e = .returned v) ∧ J p w' := by
  obtain ⟨r1, r2, r3, r4, r5, r6⟩ := hread _ _ h0
  go_enter Tryz.func87, Tryz.ntmps87
  go_wp2_with fail
  clear r1 r2 r3 r4 r5 r6
  go_loopg [6] p.length (fun k u6 wr => ∃ (q p2 : List Nat) (v : Nat), p = q ++ p2 ∧ k = p2.length ∧ u6 = .int .i64 v ∧ Chain l bys s v p2 ∧ J q wr)
  case atStart => exact ⟨[], p, t, rfl, rfl, rfl, hp, h0⟩
  case round =>
    obtain ⟨q, p2, v, hqp, hk, rfl, hch, hJq⟩ := hrel
    obtain ⟨r1, r2, r3, r4, r5, r6⟩ := hread _ _ hJq
    have HQ : Hid (p = q ++ p2) := hqp
    have HK : Hid (gk = p2.length) := hk
    clear hqp hk r5 r6
    cases p2 with
    | nil =>
      have hvs : v = s := hch
      have hpe : p = q := by rw [HQ.out]; simp
      rw [← hpe] at hJq
      have hvi : (v : Int) = s := by omega
      clear hpe hread hdo hdrew
      subst hvs
      go_wp2_with fail
      go_end0
      exact ⟨⟨_, rfl⟩, hJq⟩
    | cons r p2 =>
      obtain ⟨hvs, hby, _, b, hb, hch2⟩ := hch
      have hvn : v < n := by rw [← hbl]; exact (List.getElem?_eq_some_iff.1 hby).1
      have hcell : ∀ q Wx, J q Wx → Wx.cell? ⟨g, v, none⟩ = some (.int .i64 (r : Int)) := fun q Wx hj => by
        obtain ⟨_, _, _, _, h5, _⟩ := hread _ _ hj
        rw [blk_cell h5]; simp [hby]
      have hcv := hcell _ _ hJq
      have hrl : r < 2 * l.length := hpl r (by rw [HQ.out]; simp)
      obtain ⟨r', hx, hr1, hr2⟩ := xor_one r (by omega)
      have hr'l : r' < 2 * l.length := by omega
      have hend : endR l r' = b := by rw [endR_flip l r r' hr1 hr2, hb]
      have hvi : (v : Int) < n := by omega
      have hv0 : (0 : Int) ≤ v := by omega
      have hvs' : ¬ (v : Int) = s := by omega
      have hd := hdo q r p2 wr HQ.out hJq
      have HB : Hid (bys[v]? = some (r : Int)) := hby
      have HE : Hid (endR l r' = b) := hend
      clear hby hb hr1 hr2 hend hdo hpl hrl
      go_wp2_with (go_at_call 89; refine hd.mono ?_; rintro e w1 ⟨⟨v1, rfl⟩, hJ1⟩; obtain ⟨t1, t2, t3, t4, t5, F, t6⟩ := hread _ _ hJ1; have tc := hcell _ _ hJ1)
      have hen := fun m => flow_end_c (w1.drewN m) P FB A c l F r' (t6.drewN m) hr'l
      rw [HE.out] at hen
      have hdr := fun m => hdrew _ _ m hJ1
      have HD : Hid (∀ m, J (q ++ [r]) (w1.drewN m)) := hdr
      clear t6 t5 hread hcell hdrew hd hdr hJq hcv r1 r2 r3 r4
      go_quiet ((go_at_call 88; exact q0 (hen _)))
      go_wp2_with fail
      go_roundg p2.length
      case measure => rw [HK.out]; simp
      case rel => exact ⟨q ++ [r], p2, b, by rw [HQ.out]; simp, rfl, rfl, hch2, HD.out _⟩

set_option maxRecDepth 100000 in
set_option maxHeartbeats 4000000 in
/-- along: 'do' at each residual edge of the path back, in order; J q: what holds when it was done at q. -/
theorem along3_c (P FB : Nat) (A : Option Addr) (c : Nat) (l : List Edge) (bys : List Int) (s t g n : Nat) (bt bf bw bb bl : Nat) (hll : l.length ≤ 65536) (hn : n ≤ 4096) (J : List Nat → World → Prop) (p : List Nat) (W : World)
    (hp : Chain l bys s t p) (hpl : ∀ r, r ∈ p → r < 2 * l.length) (hbl : bys.length = n)
    (hread : ∀ q Wx, J q Wx → Wx.cell? ⟨bt, 0, none⟩ = some (.int .i64 t) ∧ Wx.cell? ⟨bf, 0, none⟩ = some (.int .i64 s) ∧ Wx.cell? ⟨bw, 0, none⟩ = some (.pointer (some ⟨P, 0, none⟩)) ∧ Wx.cell? ⟨bb, 0, none⟩ = some (.slice (some ⟨g, 0, none⟩) n n) ∧ Wx.heap[g]? = some (.cells (bys.map (Value.int .i64)).toArray 3 (0, 0)) ∧ ∃ F, FNet Wx P FB A c l F)
    (hdrew : ∀ q Wx m, J q Wx → J q (Wx.drewN m))
    (hdo : ∀ (q : List Nat) (r : Nat) (q' : List Nat) (Wx : World), p = q ++ r :: q' → J q Wx → Calls Tryz.prog 91 #[.int .i64 (r : Int), .pointer (some ⟨bw, 0, none⟩), .pointer (some ⟨bl, 0, none⟩)] Wx fun e w' => (∃ v, e = .returned v) ∧ J (q ++ [r]) w') (h0 : J [] W) :
    Calls Tryz.prog 87 #[.func (.func 91) #[] #[.pointer (some ⟨bw, 0, none⟩), .pointer (some ⟨bl, 0, none⟩)], .pointer (some ⟨bt, 0, none⟩), .pointer (some ⟨bf, 0, none⟩), .pointer (some ⟨bw, 0, none⟩), .pointer (some ⟨bb, 0, none⟩)] W fun e w' => (∃ v, e = .returned v) ∧ J p w' := by
  obtain ⟨r1, r2, r3, r4, r5, r6⟩ := hread _ _ h0
  go_enter Tryz.func87, Tryz.ntmps87
  go_wp2_with fail
  clear r1 r2 r3 r4 r5 r6
  go_loopg [6] p.length (fun k u6 wr => ∃ (q p2 : List Nat) (v : Nat), p = q ++ p2 ∧ k = p2.length ∧ u6 = .int .i64 v ∧ Chain l bys s v p2 ∧ J q wr)
  case atStart => exact ⟨[], p, t, rfl, rfl, rfl, hp, h0⟩
  case round =>
    obtain ⟨q, p2, v, hqp, hk, rfl, hch, hJq⟩ := hrel
    obtain ⟨r1, r2, r3, r4, r5, r6⟩ := hread _ _ hJq
    have HQ : Hid (p = q ++ p2) := hqp
    have HK : Hid (gk = p2.length) := hk
    clear hqp hk r5 r6
    cases p2 with
    | nil =>
      have hvs : v = s := hch
      have hpe : p = q := by rw [HQ.out]; simp
      rw [← hpe] at hJq
      have hvi : (v : Int) = s := by omega
      clear hpe hread hdo hdrew
      subst hvs
      go_wp2_with fail
      go_end0
      exact ⟨⟨_, rfl⟩, hJq⟩
    | cons r p2 =>
      obtain ⟨hvs, hby, _, b, hb, hch2⟩ := hch
      have hvn : v < n := by rw [← hbl]; exact (List.getElem?_eq_some_iff.1 hby).1
      have hcell : ∀ q Wx, J q Wx → Wx.cell? ⟨g, v, none⟩ = some (.int .i64 (r : Int)) := fun q Wx hj => by
        obtain ⟨_, _, _, _, h5, _⟩ := hread _ _ hj
        rw [blk_cell h5]; simp [hby]
      have hcv := hcell _ _ hJq
      have hrl : r < 2 * l.length := hpl r (by rw [HQ.out]; simp)
      obtain ⟨r', hx, hr1, hr2⟩ := xor_one r (by omega)
      have hr'l : r' < 2 * l.length := by omega
      have hend : endR l r' = b := by rw [endR_flip l r r' hr1 hr2, hb]
      have hvi : (v : Int) < n := by omega
      have hv0 : (0 : Int) ≤ v := by omega
      have hvs' : ¬ (v : Int) = s := by omega
      have hd := hdo q r p2 wr HQ.out hJq
      have HB : Hid (bys[v]? = some (r : Int)) := hby
      have HE : Hid (endR l r' = b) := hend
      clear hby hb hr1 hr2 hend hdo hpl hrl
      go_wp2_with (go_at_call 91; refine hd.mono ?_; rintro e w1 ⟨⟨v1, rfl⟩, hJ1⟩; obtain ⟨t1, t2, t3, t4, t5, F, t6⟩ := hread _ _ hJ1; have tc := hcell _ _ hJ1)
      have hen := fun m => flow_end_c (w1.drewN m) P FB A c l F r' (t6.drewN m) hr'l
      rw [HE.out] at hen
      have hdr := fun m => hdrew _ _ m hJ1
      have HD : Hid (∀ m, J (q ++ [r]) (w1.drewN m)) := hdr
      clear t6 t5 hread hcell hdrew hd hdr hJq hcv r1 r2 r3 r4
      go_quiet ((go_at_call 88; exact q0 (hen _)))
      go_wp2_with fail
      go_roundg p2.length
      case measure => rw [HK.out]; simp
      case rel => exact ⟨q ++ [r], p2, b, by rw [HQ.out]; simp, rfl, rfl, hch2, HD.out _⟩
end Go.Proofs.YtaiibchadlaifaaGreatDoor

namespace Go.Proofs.YtaiibchadlaifaaGreatDoor
open Go.RowKit Go.Shelf

theorem Net.raise {N N' n : Nat} {W : World} {P FB AB : Nat} {A : Option Addr} {c : Nat} {l : List Edge} {F : List Int} (h : Net N n W P FB AB A c l F) (h1 : N ≤ N') (h2 : N' ≤ W.heap.size) : Net N' n W P FB AB A c l F where
  net := h.net
  a := h.a
  hP := Nat.lt_of_lt_of_le h.hP h1
  hPF := h.hPF
  hF := Nat.lt_of_lt_of_le h.hF h1
  hA := Nat.lt_of_lt_of_le h.hA h1
  hAF := h.hAF
  hN := h2
  erd := fun W' k => h.erd W' ⟨k.os, k.tape, k.output, k.size, fun b hb hn => k.block b (by omega) hn⟩
  adj := fun v hv => by
    obtain ⟨B, cB, h3, h4⟩ := h.adj v hv
    exact ⟨B, cB, h3, fun W' k => h4 W' ⟨k.os, k.tape, k.output, k.size, fun b hb hn => k.block b (by omega) hn⟩⟩

/-- The cut while it is laid. -/
def cutL (bys : List Int) (n k : Nat) : List Value := (bys.take k).map (fun x => Value.bool (decide (0 ≤ x))) ++ List.replicate (n - k) (.bool false)
theorem cutL_at {bys : List Int} {n k : Nat} (hl : bys.length = n) (hk : k < n) : (cutL bys n k).toArray[k]? = some (.bool false) := by
  unfold cutL
  rw [List.getElem?_toArray, List.getElem?_append_right (by simp [hl]; omega), List.length_map, List.length_take, List.getElem?_replicate, if_pos (by omega)]
theorem cutL_step {bys : List Int} {n k : Nat} {x : Int} (hl : bys.length = n) (hx : bys[k]? = some x) : (cutL bys n k).set k (.bool (decide (0 ≤ x))) = cutL bys n (k + 1) := by
  have hk := (List.getElem?_eq_some_iff.1 hx).1
  unfold cutL
  rw [take_snoc_get hx, List.map_append, List.set_append_right _ _ (by simp; omega), List.append_assoc]
  congr 1
  rw [List.length_map, List.length_take, show k - min k bys.length = 0 by omega, show n - k = (n - (k + 1)) + 1 by omega, List.replicate_succ]
  rfl
theorem bool_info : (Tryz.prog.info? 4).map (fun i => (i.zero, i.size, i.bytes)) = some (some (.bool false), 1, 1) := by kernel_rfl
theorem flowE_ok {n : Int} {l : List Edge} (h : flowE n l = 0) : 2 ≤ n ∧ n ≤ 4096 ∧ l.length ≤ 65536 ∧ ∀ e, e ∈ l → edgeOk n e = true := by
  unfold flowE at h
  split at h
  · rename_i h1
    exact ⟨h1.1, h1.2.1, h1.2.2.1, List.all_eq_true.1 h1.2.2.2⟩
  · cases h
theorem ends_ok {n s t : Int} {l : List Edge} (h : endsE n s t l = 0) : flowE n l = 0 ∧ 0 ≤ s ∧ s < n ∧ 0 ≤ t ∧ t < n ∧ s ≠ t := by
  unfold endsE at h
  split at h
  · rename_i h1
    simp only [endsB, nodeB, Bool.and_eq_true, decide_eq_true_eq] at h1
    obtain ⟨⟨⟨h2, h3, h4⟩, h5, h6⟩, h7⟩ := h1
    exact ⟨h2, h3, h4, h5, h6, h7⟩
  · cases h

set_option maxRecDepth 100000 in
set_option maxHeartbeats 4000000 in
theorem max_bad (n s t : Int) (l : List Edge) (A : Option Addr) (c : Nat) (w : World) (h : Rd kEdge w A l) (he : endsE n s t l ≠ 0) :
    Calls Tryz.prog 48 #[.int .i64 n, .slice A l.length c, .int .i64 s, .int .i64 t] w fun e w' => e = .returned (.tuple #[.slice none 0 0, .slice none 0 0, .int .i64 180]) ∧ Below w.heap.size w w' := by
  have hc := fun W (hW : Below w.heap.size w W) => flow_check_c n s t l A c W (h.below hW)
  have h1 : endsE n s t l = 180 := by unfold endsE at he ⊢; split <;> simp_all
  rw [h1] at hc
  clear h he h1
  go_enter Tryz.func48, Tryz.ntmps48
  go_wp2_with (go_at_call 72; refine (hc _ (below2 _ _ _)).mono ?_; rintro e w1 ⟨rfl, hb1⟩)
  exact bodyPost_ret (v := .tuple #[.slice none 0 0, .slice none 0 0, .int .i64 180]) (by simp [results, Tryz.results48, go_sem]) rfl ⟨rfl, bthen (below2 _ _ _) hb1⟩

set_option maxRecDepth 100000 in
set_option maxHeartbeats 16000000 in
theorem max_good (n s t : Nat) (l : List Edge) (A : Option Addr) (c : Nat) (w : World) (h : Rd kEdge w A l) (he : endsE n s t l = 0) :
    Calls Tryz.prog 48 #[.int .i64 n, .slice A l.length c, .int .i64 s, .int .i64 t] w fun e w' => ∃ FB cb F bys, e = .returned (.tuple #[.slice (some ⟨FB, 0, none⟩) l.length l.length, .slice (some ⟨cb, 0, none⟩) n n, .int .i64 0]) ∧ w.heap.size ≤ FB ∧ w.heap.size ≤ cb ∧
      w'.heap[FB]? = some (.cells ((F.map (Value.int .i64)).toArray) 3 (0, 0)) ∧ w'.heap[cb]? = some (.cells ((bys.map fun x => Value.bool (decide (0 ≤ x))).toArray) 4 (0, 0)) ∧ bys.length = n ∧ MaxSpec n s t l F (cutOf bys) ∧ Below w.heap.size w w' := by
  have hc := fun W (hW : Below w.heap.size w W) => flow_check_c n s t l A c W (h.below hW)
  obtain ⟨hf0, hs0, hs1, ht0, ht1, hst⟩ := ends_ok he
  obtain ⟨hn2, hn4, hll, hok⟩ := flowE_ok hf0
  rw [he] at hc
  have hin : nodesIn n l := fun e q => by have := hok e q; unfold edgeOk at this; simp at this; omega
  have hloop : ∀ e, e ∈ l → e.f ≠ e.t := fun e q => by have := hok e q; unfold edgeOk at this; simp at this; omega
  have m0 : ∀ e, e ∈ l → 0 ≤ e.m := fun e q => by have := hok e q; unfold edgeOk at this; simp at this; omega
  have m30 : ∀ e, e ∈ l → e.m ≤ 1073741824 := fun e q => by have := hok e q; unfold edgeOk at this; simp at this; omega
  have hnn : n ≤ 4096 := by omega
  have hsn : s < n := by omega
  have htn : t < n := by omega
  have hstn : s ≠ t := by omega
  have hnet := fun W (hW : Below w.heap.size w W) => newNetwork_c n l A c W (h.below hW) hnn hll hin hloop
  clear he hf0 hok hs0 hs1 ht0 ht1 hst hn2 hn4 hloop
  go_enter Tryz.func48, Tryz.ntmps48
  go_wp2_with fail
  refine (hc _ (below2 _ _ _)).mono ?_
  rintro e w1 ⟨rfl, hb1⟩
  have hbf := (hb1.block w.heap.size (by simp; omega)).trans (alloc2_blk0 w (.cells #[.int .i64 s] 3) (.cells #[.int .i64 t] 3))
  have hbt := (hb1.block (w.heap.size + 1) (by simp)).trans (alloc2_blk1 w (.cells #[.int .i64 s] 3) (.cells #[.int .i64 t] 3))
  have hB1 := bthen (below2 _ _ _) hb1
  clear hb1 hc
  go_wp2_with fail
  refine (hnet _ hB1).mono ?_
  rintro e w2 ⟨P, FB, AB, rfl, net, gP, gF, gA, hb2⟩
  have hw1 := (Array.getElem?_eq_some_iff.1 hbt).1
  have hbf2 := (hb2.block w.heap.size (by omega)).trans hbf
  have hbt2 := (hb2.block (w.heap.size + 1) hw1).trans hbt
  have hB2 := bthen hB1 hb2
  have hw2 := Nat.lt_of_lt_of_le hw1 hb2.size
  have hP2 := net.hP
  have hF2 := net.hF
  have gF1 : w.heap.size + 1 < FB := by omega
  clear hbf hbt hB1 hb2 hnet
  go_wp2_with fail
  have hbw3 := World.alloc_heap_new w2 (.cells #[.pointer (some ⟨P, 0, none⟩)] 140)
  have hbf3 := (Below.heap_alloc w2 (.cells #[.pointer (some ⟨P, 0, none⟩)] 140) _ (by omega)).trans hbf2
  have hbt3 := (Below.heap_alloc w2 (.cells #[.pointer (some ⟨P, 0, none⟩)] 140) _ (by omega)).trans hbt2
  have hB3 : Below w.heap.size w (w2.alloc (.cells #[.pointer (some ⟨P, 0, none⟩)] 140)) := hB2.alloc hB2.size _
  have hz3 := World.size_alloc w2 (.cells #[.pointer (some ⟨P, 0, none⟩)] 140)
  have net3 := (net.below (below1 w2 (.cells #[.pointer (some ⟨P, 0, none⟩)] 140))).raise (N' := w2.heap.size + 1) (by omega) (by omega)
  clear net hbf2 hbt2 hB2
  generalize w2.alloc (.cells #[.pointer (some ⟨P, 0, none⟩)] 140) = w3 at *
  rw [← hz3] at net3
  have hwz : w2.heap.size < w3.heap.size := by omega
  clear hz3
  generalize w2.heap.size = bw at *
  have ok0 := okF_zero m0
  have cons0 : conserve n s t l (List.replicate l.length 0) := fun v _ _ _ => outF_zero l v
  go_loopg [] ((capC (fun v => decide (v = (s : Int))) l - outF l (List.replicate l.length 0) s).toNat) (fun k wr => ∃ F, k = (capC (fun v => decide (v = (s : Int))) l - outF l F s).toNat ∧ okF l F ∧ conserve n s t l F ∧ Net w3.heap.size n wr P FB AB A c l F ∧ BelowX w3.heap.size FB w3 wr)
  case atStart => exact ⟨_, rfl, ok0, cons0, net3, BelowX.refl _ _ _⟩
  case round =>
    obtain ⟨F, hk, ok, cons, netr, hX⟩ := hrel
    have cf : wr.cell? ⟨w.heap.size, 0, none⟩ = some (.int .i64 s) := (hX.cell (p := ⟨w.heap.size, 0, none⟩) (by simp; omega) (by simp; omega)).trans (by rw [blk_cell hbf3]; rfl)
    have ct : wr.cell? ⟨w.heap.size + 1, 0, none⟩ = some (.int .i64 t) := (hX.cell (p := ⟨w.heap.size + 1, 0, none⟩) (by simp; omega) (by simp; omega)).trans (by rw [blk_cell hbt3]; rfl)
    have cw : wr.cell? ⟨bw, 0, none⟩ = some (.pointer (some ⟨P, 0, none⟩)) := (hX.cell (p := ⟨bw, 0, none⟩) (by simp; omega) (by simp; omega)).trans (by rw [blk_cell hbw3]; rfl)
    have hBr : Below w.heap.size w wr := hB3.trans (hX.below (by omega) (by omega))
    have HK : Hid (gk = _) := hk
    clear hk hbf3 hbt3 hbw3 net3 ok0 cons0
    have hsX := hX.size
    go_wp2_with fail
    refine (search_c w3.heap.size n wr P FB AB A c l F netr ok m30 hnn hll hin s t hsn htn hstn).mono ?_
    rintro e w4 ⟨g, bys, vis, rfl, hg, hrow, reach, hclos, hb4⟩
    have hgz := (Array.getElem?_eq_some_iff.1 hrow).1
    have cf4 := (hb4.cell (p := ⟨w.heap.size, 0, none⟩) (by simp; omega)).trans cf
    have ct4 := (hb4.cell (p := ⟨w.heap.size + 1, 0, none⟩) (by simp; omega)).trans ct
    have cw4 := (hb4.cell (p := ⟨bw, 0, none⟩) (by simp; omega)).trans cw
    have net4 := netr.below (hb4.mono netr.hN)
    have hX4 : BelowX w3.heap.size FB w3 w4 := hX.trans (.of_below hb4 hsX)
    have hB4 := bthen hBr hb4
    have hs4 := hb4.size
    have z1 : w.heap.size < w4.heap.size := by omega
    have z2 : w.heap.size + 1 < w4.heap.size := by omega
    have z3 : bw < w4.heap.size := by omega
    have hlen := reach.len
    obtain ⟨y, hy⟩ : ∃ y, bys[t]? = some y := ⟨_, List.getElem?_eq_getElem (by omega)⟩
    have hmem := reach.mem htn hy
    have cy4 : w4.cell? ⟨g, t, none⟩ = some (.int .i64 y) := by rw [blk_cell hrow]; simp [hy]
    have HY : Hid (bys[t]? = some y) := hy
    have HL : Hid (bys.length = n) := hlen
    have htI : (t : Int) < n := by omega
    have ht0 : (0 : Int) ≤ t := by omega
    clear hy hlen hX hBr hb4 cf ct cw netr
    by_cases hyn : y < 0
    · have htv : t ∉ vis := fun q => by have := hmem.1 q; omega
      have hspec := reach.spec ok cons htv (hclos htv)
      clear hmem hclos cons ok htv reach HY
      have hmk := run_make_row' (P := Tryz.prog) 43 4 (.bool false) 1 Tryz.underlying43 bool_info rfl .i64 .i64 n (by omega) (by omega)
      go_wp2_with fail
      have hcb := alloc2_blk1 w4 (.cells #[.slice (some ⟨g, 0, none⟩) n n] 34) (.cells (madeCells #[.bool false] n) 4)
      have hb6 := below2 w4 (.cells #[.slice (some ⟨g, 0, none⟩) n n] 34) (.cells (madeCells #[.bool false] n) 4)
      have hz6 := alloc2_size w4 (.cells #[.slice (some ⟨g, 0, none⟩) n n] 34) (.cells (madeCells #[.bool false] n) 4)
      have hcb : Hid (((w4.alloc (.cells #[.slice (some ⟨g, 0, none⟩) n n] 34)).alloc (.cells (madeCells #[.bool false] n) 4)).heap[w4.heap.size + 1]? = some (.cells (cutL bys n 0).toArray 4 (0, 0))) := by
        show _ = _
        rw [hcb]
        congr 2
        apply Array.ext'
        rw [toList_madeCells_one]
        simp [cutL]
      have net6 := net4.below (hb6.mono net4.hN)
      have hB6 := bthen hB4 hb6
      have hrow6 := (hb6.block g hgz).trans hrow
      have cw6 := (hb6.cell (p := ⟨bw, 0, none⟩) z3).trans cw4
      clear hmk hb6 net4 hB4 hrow cw4 cf4 ct4 cy4 hX4
      generalize (w4.alloc (.cells #[.slice (some ⟨g, 0, none⟩) n n] 34)).alloc (.cells (madeCells #[.bool false] n) 4) = w6 at *
      generalize w4.heap.size = z at *
      have hz6a : z + 2 ≤ w6.heap.size := by omega
      clear hz6
      go_loopw [42] (fun i wr2 => ∃ k : Nat, k ≤ n ∧ i = .int .i64 k ∧ Hid (wr2.heap[z + 1]? = some (.cells (cutL bys n k).toArray 4 (0, 0))) ∧ Below (z + 1) w6 wr2) (fun i _ => n - (intOf i).toNat)
      case atStart => exact ⟨0, Nat.zero_le _, rfl, hcb, Below.refl _ _⟩
      case round =>
        obtain ⟨k, hk, rfl, hcr, hbr⟩ := hrel
        by_cases hlt : k < n
        · obtain ⟨x, hx⟩ : ∃ x, bys[k]? = some x := ⟨_, List.getElem?_eq_getElem (by rw [HL.out]; exact hlt)⟩
          have hrr := (hbr.block g (by omega)).trans hrow6
          have cx : wr.cell? ⟨g, k, none⟩ = some (.int .i64 x) := by rw [blk_cell hrr]; simp [hx]
          have hlenC : (cutL bys n k).length = n := by unfold cutL; simp [HL.out]; omega
          have cc : wr.cell? ⟨z + 1, k, none⟩ = some (.bool false) := by rw [blk_cell hcr.out]; exact cutL_at HL.out hlt
          have fc := blk_frozen hcr.out k
          have hset := heap_setCell_same wr (z + 1) k _ _ (.bool (decide (0 ≤ x))) hcr.out
          rw [List.setIfInBounds_toArray, cutL_step HL.out hx] at hset
          have HS : Hid (_ = some (Obj.cells (cutL bys n (k + 1)).toArray 4 (0, 0))) := hset
          have hkI : (k : Int) < n := by omega
          clear hx hset hrow6 hrr hcr hlenC
          go_wp2_with fail
          go_roundw
          case rel => exact ⟨k + 1, hlt, by go_num, HS, hbr.setCell (p := ⟨z + 1, k, none⟩) (Nat.le_refl _) _⟩
          case measure => simp [intOf]; omega
        · obtain rfl : k = n := by omega
          have hne := net6.below (hbr.mono (by omega))
          have cw7 := (hbr.cell (p := ⟨bw, 0, none⟩) (by simp; omega)).trans cw6
          have cfl := hne.net.f
          have hfb := hne.net.blk
          have hBz := hB6.trans (hbr.mono (by omega))
          have hcfin : wr.heap[z + 1]? = some (.cells ((bys.map fun x => Value.bool (decide (0 ≤ x))).toArray) 4 (0, 0)) := by
            rw [hcr.out]
            unfold cutL
            rw [List.take_of_length_le (by rw [HL.out]; exact Nat.le_refl _)]
            simp
          have HF : Hid _ := hcfin
          have HB : Hid _ := hfb
          clear hcfin hfb hcr hrow6
          go_wp2_with fail
          exact bodyPost_ret (v := .tuple #[.slice (some ⟨FB, 0, none⟩) l.length l.length, .slice (some ⟨z + 1, 0, none⟩) k k, .int .i64 0]) (by simp [results, Tryz.results48, go_sem]) rfl ⟨FB, z + 1, F, bys, rfl, by omega, by omega, HB.out, HF.out, HL.out, hspec, hBz⟩
    · have htv : t ∈ vis := hmem.2 (by omega)
      obtain ⟨ti, hti⟩ := List.mem_iff_getElem?.1 htv
      obtain ⟨p, hch, hpg, hnd, _, _⟩ := reach.chain ti t hti
      have hpl : ∀ r, r ∈ p → r < 2 * l.length := fun r hr => (hpg r hr).1
      have hpos : 1 ≤ minP l F 1073741824 p := minP_pos p _ (by omega) (fun r hr => (hpg r hr).2)
      have hle := minP_le (l := l) (F := F) p 1073741824
      clear hmem hclos hti htv
      have HL2 := HL.out
      have hyn : decide (y < 0) = false := decide_eq_false hyn
      go_wp2_with fail
      have hbb := alloc2_blk0 w4 (.cells #[.slice (some ⟨g, 0, none⟩) n n] 34) (.cells #[.int .i64 1073741824] 3)
      have hbl := alloc2_blk1 w4 (.cells #[.slice (some ⟨g, 0, none⟩) n n] 34) (.cells #[.int .i64 1073741824] 3)
      have hb6 := below2 w4 (.cells #[.slice (some ⟨g, 0, none⟩) n n] 34) (.cells #[.int .i64 1073741824] 3)
      have hz6 := alloc2_size w4 (.cells #[.slice (some ⟨g, 0, none⟩) n n] 34) (.cells #[.int .i64 1073741824] 3)
      have net6 := net4.below (hb6.mono net4.hN)
      have hX6 : BelowX w3.heap.size FB w3 _ := hX4.trans (.of_below hb6 (by omega))
      have hrow6 := (hb6.block g hgz).trans hrow
      have cf6 := (hb6.cell (p := ⟨w.heap.size, 0, none⟩) z1).trans cf4
      have ct6 := (hb6.cell (p := ⟨w.heap.size + 1, 0, none⟩) z2).trans ct4
      have cw6 := (hb6.cell (p := ⟨bw, 0, none⟩) z3).trans cw4
      have cb6 : ((w4.alloc (.cells #[.slice (some ⟨g, 0, none⟩) n n] 34)).alloc (.cells #[.int .i64 1073741824] 3)).cell? ⟨w4.heap.size, 0, none⟩ = some (.slice (some ⟨g, 0, none⟩) n n) := by rw [blk_cell hbb]; rfl
      have cl6 : ((w4.alloc (.cells #[.slice (some ⟨g, 0, none⟩) n n] 34)).alloc (.cells #[.int .i64 1073741824] 3)).cell? ⟨w4.heap.size + 1, 0, none⟩ = some (.int .i64 1073741824) := by rw [blk_cell hbl]; rfl
      have fl6 := blk_frozen hbl 0
      clear hb6 net4 hrow cf4 ct4 cw4 cy4 hX4 hbb hbl hB4
      generalize (w4.alloc (.cells #[.slice (some ⟨g, 0, none⟩) n n] 34)).alloc (.cells #[.int .i64 1073741824] 3) = w6 at *
      have hz4N : w3.heap.size ≤ w4.heap.size := by omega
      generalize w4.heap.size = z at *
      refine (along2_c P FB A c l bys s t g n (w.heap.size + 1) w.heap.size bw z (z + 1) hll hnn (fun q Wx => Wx.cell? ⟨z + 1, 0, none⟩ = some (.int .i64 (minP l F 1073741824 q)) ∧ Wx.frozen? ⟨z + 1, 0, none⟩ = false ∧ Below (z + 1) w6 Wx) p w6 hch hpl HL2
        (fun q Wx ⟨_, _, j⟩ => ⟨(j.cell (p := ⟨w.heap.size + 1, 0, none⟩) (by simp; omega)).trans ct6, (j.cell (p := ⟨w.heap.size, 0, none⟩) (by simp; omega)).trans cf6, (j.cell (p := ⟨bw, 0, none⟩) (by simp; omega)).trans cw6, (j.cell (p := ⟨z, 0, none⟩) (by simp)).trans cb6, (j.block g (by omega)).trans hrow6, F, (net6.below (j.mono (by omega))).net⟩)
        (fun q Wx m ⟨j1, j2, j⟩ => ⟨j1, j2, j.trans (below_drewN2 _ _ _)⟩)
        (fun q r q' Wx hpq ⟨j1, j2, j⟩ => ?do2)
        ⟨cl6, fl6, Below.refl _ _⟩).mono ?_
      case do2 =>
        have hr := hpl r (by rw [hpq]; simp)
        refine (max2_c Wx P FB A c l F r (net6.below (j.mono (by omega))).net ok m30 hr (z + 1) bw _ j1 j2 ((j.cell (p := ⟨bw, 0, none⟩) (by simp; omega)).trans cw6)).mono ?_
        rintro e w' ⟨he, m, rfl⟩
        refine ⟨he, ?_, ?_, (j.trans (below_drewN2 _ _ m)).setCell (p := ⟨z + 1, 0, none⟩) (Nat.le_refl _) _⟩
        · rw [minP_snoc]
          exact World.cell?_setCell_same' _ _ _ (by rw [show (Wx.drewN m).cell? ⟨z + 1, 0, none⟩ = Wx.cell? ⟨z + 1, 0, none⟩ from rfl, j1]; rfl)
        · rw [World.frozen?_setCell]; exact j2
      rintro e w7 ⟨⟨v7, rfl⟩, j1, j2, j⟩
      have hsj := j.size
      have net7 := net6.below (j.mono (by omega))
      have hX7 : BelowX w3.heap.size FB w3 w7 := hX6.trans (.of_below j (by omega))
      have hrow7 := (j.block g (by omega)).trans hrow6
      have cf7 := (j.cell (p := ⟨w.heap.size, 0, none⟩) (by simp; omega)).trans cf6
      have ct7 := (j.cell (p := ⟨w.heap.size + 1, 0, none⟩) (by simp; omega)).trans ct6
      have cw7 := (j.cell (p := ⟨bw, 0, none⟩) (by simp; omega)).trans cw6
      have cb7 := (j.cell (p := ⟨z, 0, none⟩) (by simp)).trans cb6
      have hFz : FB < z := by omega
      clear cf6 ct6 cw6 cb6 cl6 fl6 j j2 net6 hX6 hrow6
      obtain ⟨d, hd⟩ : ∃ d, d = minP l F 1073741824 p := ⟨_, rfl⟩
      rw [← hd] at j1 hpos hle
      clear hd
      have hpc : ∀ r, r ∈ p → r < 2 * l.length ∧ d ≤ capR l F r := fun r hr => ⟨hpl r hr, hle.2 r hr⟩
      have haug := augment_ok ok cons hstn hch hpc hnd hpos
      have hwk := weak1 hin haug.1 haug.2.1 hsn hstn
      go_wp2_with fail
      refine (along3_c P FB A c l bys s t g n (w.heap.size + 1) w.heap.size bw z (z + 1) hll hnn (fun q Wx => Wx.cell? ⟨z + 1, 0, none⟩ = some (.int .i64 d) ∧ Net w3.heap.size n Wx P FB AB A c l (pushAll F q d) ∧ BelowX (z + 2) FB w7 Wx) p w7 hch hpl HL2
        (fun q Wx ⟨_, nt, k⟩ => ⟨(k.cell (p := ⟨w.heap.size + 1, 0, none⟩) (by simp; omega) (by simp; omega)).trans ct7, (k.cell (p := ⟨w.heap.size, 0, none⟩) (by simp; omega) (by simp; omega)).trans cf7, (k.cell (p := ⟨bw, 0, none⟩) (by simp; omega) (by simp; omega)).trans cw7, (k.cell (p := ⟨z, 0, none⟩) (by simp) (by simp; omega)).trans cb7, (k.block g (by omega) (by omega)).trans hrow7, _, nt.net⟩)
        (fun q Wx m ⟨k1, nt, k⟩ => ⟨k1, nt.below (below_drewN2 _ _ _), k.trans (.of_below (below_drewN2 (z + 2) _ _) (Nat.le_refl _))⟩)
        (fun q r q' Wx hpq ⟨k1, nt, k⟩ => ?do3)
        ⟨j1, net7, BelowX.refl _ _ _⟩).mono ?_
      case do3 =>
        have hr := hpl r (by rw [hpq]; simp)
        have hqok : okF l (pushAll F q d) := okF_pushAll (by omega) ok (fun x hx => hpc x (by rw [hpq]; simp [hx])) (by rw [hpq, List.map_append] at hnd; exact (List.nodup_append.1 hnd).1)
        refine (max3_c Wx P FB A c l (pushAll F q d) r d nt.net hr (by omega) hle.1 (okF_bound hqok m30) (z + 1) bw k1 ((k.cell (p := ⟨bw, 0, none⟩) (by simp; omega) (by simp; omega)).trans cw7)).mono ?_
        rintro e w' ⟨he, rfl⟩
        refine ⟨he, ?_, by rw [pushAll_snoc]; exact nt.push r d, k.set (p := ⟨FB, r / 2, none⟩) (.inl rfl) _⟩
        rw [World.cell?_setCell_other (h := by intro q; injection q with q1 _ _; omega)]
        exact k1
      rintro e w8 ⟨⟨v8, rfl⟩, _, nt8, k8⟩
      have hX8 : BelowX w3.heap.size FB w3 w8 := hX7.trans ⟨k8.os, k8.tape, k8.output, k8.size, fun b hb hn => k8.block b (by omega) hn⟩
      go_wp2_with fail
      go_roundg (capC (fun v => decide (v = (s : Int))) l - outF l (pushAll F p d) s).toNat
      case measure => rw [HK.out]; have := haug.2.2; omega
      case rel => exact ⟨_, rfl, haug.1, haug.2.1, nt8, hX8⟩
end Go.Proofs.YtaiibchadlaifaaGreatDoor

namespace Go.Proofs.YtaiibchadlaifaaGreatDoor
open Go.RowKit Go.Shelf

abbrev failV (e : Int) : Value := .iface 138 (.agg #[.int .i64 e])

theorem demand_ok (e : Int) (w : World) : Calls Tryz.prog 84 #[.bool true, .int .i64 e] w fun r w' => (∃ v, r = .returned v) ∧ w = w' := by
  go_enter Tryz.func84, Tryz.ntmps84
  go_wp2
  go_end0
  exact ⟨⟨_, rfl⟩, rfl⟩
theorem demand_no (e : Int) (w : World) : Calls Tryz.prog 84 #[.bool false, .int .i64 e] w fun r w' => r = .panicked [{ v := failV e, recovered := false }] ∧ w = w' := by
  go_enter Tryz.func84, Tryz.ntmps84
  go_wp2
  exact ⟨rfl, rfl, rfl⟩
theorem try_ok (w : World) : Calls Tryz.prog 47 #[.int .i64 0] w fun r w' => (∃ v, r = .returned v) ∧ w = w' := by
  go_enter Tryz.func47, Tryz.ntmps47
  go_wp2_with (go_at_call 84; refine (demand_ok _ _).mono ?_; rintro e w1 ⟨⟨v, rfl⟩, rfl⟩)
  go_end0
  exact ⟨⟨_, rfl⟩, rfl⟩
theorem try_no (e : Int) (he : e ≠ 0) (w : World) : Calls Tryz.prog 47 #[.int .i64 e] w fun r w' => r = .panicked [{ v := failV e, recovered := false }] ∧ w = w' := by
  have hd : (e == 0) = false := by simpa using he
  clear he
  go_enter Tryz.func47, Tryz.ntmps47
  go_wp2_with fail
  refine (demand_no _ _).mono ?_
  rintro r w1 ⟨rfl, rfl⟩
  exact ⟨rfl, rfl, rfl⟩
theorem caught_nil (p : Addr) (w : World) : Calls Tryz.prog 46 #[.nilIface, .pointer (some p)] w fun r w' => (∃ v, r = .returned v) ∧ w = w' := by
  go_enter Tryz.func46, Tryz.ntmps46
  go_wp2
  go_end0
  exact ⟨⟨_, rfl⟩, rfl⟩
set_option maxRecDepth 100000 in
theorem caught_fail (b : Nat) (e x : Int) (w : World) (hc : w.cell? ⟨b, 0, none⟩ = some (.int .i64 x)) (hf : w.frozen? ⟨b, 0, none⟩ = false) (hb : b < w.heap.size) : Calls Tryz.prog 46 #[failV e, .pointer (some ⟨b, 0, none⟩)] w fun r w' => (∃ v, r = .returned v) ∧ w' = (w.setCell ⟨b, 0, none⟩ (.int .i64 e)).alloc (.cells #[.int .i64 e] 138) := by
  have hta : ∀ W : World, (Instr.typeAssert (failV e) 20 138 true).run Tryz.prog W = .ok (.tuple #[.agg #[.int .i64 e], .bool true]) W := fun W => by rfl
  go_enter Tryz.func46, Tryz.ntmps46
  go_wp2
  go_end0
  exact ⟨⟨_, rfl⟩, rfl⟩

theorem wpSIn_of_wpS {n : Nat} {P : Program} {c : Code} {Q : Exit → Act → List Frame → World → Prop} {a : Act} {cs : List Frame} {w : World} (h : c.wpS P (fun e a' cs' w' => cs'.length = cs.length ∧ Q e a' cs' w') a cs w) : c.wpSIn Fence.wide n P Q a cs w := by
  intro b k hb hro hF hroom
  obtain ⟨e, a', cs', w', ⟨hl, hq⟩, harr⟩ := h b k hb hro
  refine ⟨e, a', cs', w', hl, hq, ?_⟩
  rw [Frame.atR_of_none hro]
  exact (arrivesIn_iff (fun _ _ => stepsIn_wide) hro).2 harr

theorem audit1_idle (n : Nat) (b : Nat) (w : World) : CallsDIn Fence.wide n Tryz.prog 45 #[.pointer (some ⟨b, 0, none⟩)] .returning w fun r u' w' => (∃ v, r = .returned v) ∧ u' = .returning ∧ w' = w := by
  refine callsDIn_of_wpSIn Tryz.func45 rfl trivial fun c₀ cs hu => ?_
  refine wpSIn_of_wpS ?_
  apply wpS_region
  simp [wpOpsS, go_sem, recoverD, hu, Tryz.ntmps45]
  refine (caught_nil _ _).mono ?_
  rintro r w' ⟨⟨v, rfl⟩, rfl⟩
  cases c₀
  simp_all [bodyPostS, results, Tryz.results45]
theorem audit1_caught (n : Nat) (b : Nat) (e x : Int) (w : World) (hc : w.cell? ⟨b, 0, none⟩ = some (.int .i64 x)) (hf : w.frozen? ⟨b, 0, none⟩ = false) (hb : b < w.heap.size) : CallsDIn Fence.wide n Tryz.prog 45 #[.pointer (some ⟨b, 0, none⟩)] (.panicking [{ v := failV e, recovered := false }]) w fun r u' w' => (∃ v, r = .returned v) ∧ u' = .panicking [{ v := failV e, recovered := true }] ∧ w' = (w.setCell ⟨b, 0, none⟩ (.int .i64 e)).alloc (.cells #[.int .i64 e] 138) := by
  refine callsDIn_of_wpSIn Tryz.func45 rfl trivial fun c₀ cs hu => ?_
  refine wpSIn_of_wpS ?_
  apply wpS_region
  simp [wpOpsS, go_sem, recoverD, hu, Tryz.ntmps45]
  refine (caught_fail b e x w hc hf hb).mono ?_
  rintro r w' ⟨⟨v, rfl⟩, rfl⟩
  cases c₀
  simp_all [bodyPostS, results, Tryz.results45]
end Go.Proofs.YtaiibchadlaifaaGreatDoor

namespace Go.Proofs.YtaiibchadlaifaaGreatDoor
open Go.RowKit Go.Shelf
attribute [local go_sem] Oper.semAt_some

set_option maxRecDepth 100000 in
set_option maxHeartbeats 8000000 in
theorem degree_Audit_bad (w : World) (p : Prg) (l : List Att) (A Aq : Option Addr) (c cq : Nat) (hl : Rd kAtt w A l) (hq : Rd kReq w Aq p.reqs) (hm : l.length ≤ 60) (hE : netE p l ≠ 0) :
    Calls Tryz.prog 21 #[.agg #[.string p.nm, .int .i64 p.num, .int .i64 p.uses, .int .i64 p.earn, .int .i64 p.mn, .int .i64 p.md, .slice Aq p.reqs.length cq], .slice A l.length c] w fun e w' => e = .returned (.tuple #[.agg #[.slice none 0 0, .int .i64 0, .slice none 0 0], .int .i64 (netE p l)]) ∧ Below w.heap.size w w' := by
  have hnet := fun W (hW : Below w.heap.size w W) => degree_Network_bad W p l A Aq c cq (hl.below hW) (hq.below hW) (by omega) hE
  obtain ⟨pnm, pnum, puses, pearn, pmn, pmd, qs⟩ := p
  dsimp only at *
  generalize netE ⟨pnm, pnum, puses, pearn, pmn, pmd, qs⟩ l = E at *
  have hmf : ∀ (fn : Fn) (first cap : Array Value) (w : World), (Instr.makeFunc fn first cap).run Tryz.prog w = .ok (.func fn first cap) w := fun _ _ _ _ => rfl
  refine (callsIn_wide (n := 10)).1 ?_
  refine callsIn_of_wp_marks Tryz.func21 rfl trivial ?_ rfl
  simp only [Tryz.ntmps21, List.size_toArray, List.length_cons, List.length_nil, Nat.reduceAdd, Nat.reduceSub, Array.replicate_succ, Array.replicate_zero, List.push_toArray, List.append_toArray, List.nil_append, List.cons_append]
  gi_wp2_with fail
  refine ⟨trivial, ?_⟩
  refine (callsIn_wide.2 (hnet _ (below3 _ _ _ _))).mono ?_
  rintro e w1 ⟨rfl, hb1⟩
  have ha1 := (hb1.block (w.heap.size + 1) (by rw [alloc3_size]; omega)).trans (alloc3_blk1 w _ _ _)
  have he1 := (hb1.block (w.heap.size + 1 + 1) (by rw [alloc3_size]; omega)).trans (alloc3_blk2 w _ _ _)
  have hB1 := bthen (below3 w _ _ _) hb1
  have hz1 := (Array.getElem?_eq_some_iff.1 he1).1
  have ce1 : w1.cell? ⟨w.heap.size + 1 + 1, 0, none⟩ = some (.int .i64 0) := by rw [blk_cell he1]; rfl
  have fe1 := blk_frozen he1 0
  clear hb1 hnet
  gi_wp2_with fail
  refine ⟨trivial, ?_⟩
  refine (callsIn_wide.2 (try_no E hE _)).mono ?_
  rintro e w2 ⟨rfl, rfl⟩
  have ha2 := (Below.heap_setCell w1 ⟨w.heap.size + 1 + 1, 0, none⟩ (.int .i64 E) (w.heap.size + 1) (by simp)).trans ha1
  have he2 := heap_setCell_same w1 (w.heap.size + 1 + 1) 0 _ _ (.int .i64 E) he1
  have hB2 : Below w.heap.size w (w1.setCell ⟨w.heap.size + 1 + 1, 0, none⟩ (.int .i64 E)) := hB1.setCell (p := ⟨w.heap.size + 1 + 1, 0, none⟩) (by simp; omega) _
  have hz2 := (Array.getElem?_eq_some_iff.1 he2).1
  generalize w1.setCell ⟨w.heap.size + 1 + 1, 0, none⟩ (.int .i64 E) = w2 at *
  refine ⟨by simp, .inr ⟨fun _ => by omega, .func 45, #[.pointer (some ⟨w.heap.size + 1 + 1, 0, none⟩)], 45, #[.pointer (some ⟨w.heap.size + 1 + 1, 0, none⟩)], rfl, by simp [go_sem], fun _ _ => trivial, ?_⟩⟩
  refine CallsDIn.mono (audit1_caught _ _ E E w2 (by rw [blk_cell he2]; rfl) (blk_frozen he2 0) hz2) ?_
  rintro r u' w' ⟨⟨v, rfl⟩, rfl, rfl⟩
  have ha3 := (Below.heap_setCell w2 ⟨w.heap.size + 1 + 1, 0, none⟩ (.int .i64 E) (w.heap.size + 1) (by simp)).trans ha2
  have he3 := heap_setCell_same w2 (w.heap.size + 1 + 1) 0 _ _ (.int .i64 E) he2
  have ha4 := (Below.heap_alloc _ (.cells #[.int .i64 E] 138) _ (Array.getElem?_eq_some_iff.1 ha3).1).trans ha3
  have he4 := (Below.heap_alloc _ (.cells #[.int .i64 E] 138) _ (Array.getElem?_eq_some_iff.1 he3).1).trans he3
  have hB4 : Below w.heap.size w ((w2.setCell ⟨w.heap.size + 1 + 1, 0, none⟩ (.int .i64 E)).alloc (.cells #[.int .i64 E] 138)) := by
    have h3 : Below w.heap.size w (w2.setCell ⟨w.heap.size + 1 + 1, 0, none⟩ (.int .i64 E)) := hB2.setCell (p := ⟨w.heap.size + 1 + 1, 0, none⟩) (by simp; omega) _
    exact h3.alloc h3.size _
  generalize (w2.setCell ⟨w.heap.size + 1 + 1, 0, none⟩ (.int .i64 E)).alloc (.cells #[.int .i64 E] 138) = w4 at *
  have ca0 := blk_cell ha4 0
  have ca1 := blk_cell ha4 1
  have ca2 := blk_cell ha4 2
  have ce4 := blk_cell he4 0
  exact ⟨.tuple #[.agg #[.slice none 0 0, .int .i64 0, .slice none 0 0], .int .i64 E], by simp [results, Tryz.results21, go_sem, ca0, ca1, ca2, ce4], rfl, hB4⟩
end Go.Proofs.YtaiibchadlaifaaGreatDoor

namespace Go.Proofs.YtaiibchadlaifaaGreatDoor
open Go.RowKit Go.Shelf

theorem attOk_cr {a : Att} (h : attOk a = true) : 0 ≤ a.cr ∧ a.cr ≤ 60 := by
  obtain ⟨_, _, h3, h4, _, _⟩ := attOk_bd h
  exact ⟨h3, h4⟩
theorem netL_ok {p : Prg} {l : List Att} (h : netE p l = 0) : ∀ e, e ∈ netL p l → edgeOk ((2 + l.length + p.reqs.length : Nat) : Int) e = true := by
  obtain ⟨h1, h2⟩ := netE_ok h
  obtain ⟨hu1, hu2, hr, hq⟩ := prg_ok h1
  have hatt : ∀ a, a ∈ l → attOk a = true := fun a ha => List.all_eq_true.1 h2 a ha
  intro e he
  have hno := netL_nodes p l e he
  unfold netL at he
  rw [List.mem_append, List.mem_append] at he
  unfold edgeOk
  rw [decide_eq_true_eq]
  rcases he with (he | he) | he
  · obtain ⟨k, hk, hx⟩ := mem_upTo he
    unfold edgeA at hx
    rw [List.getElem?_eq_getElem hk] at hx
    simp at hx
    obtain ⟨c0, c1⟩ := attOk_cr (hatt _ (List.getElem_mem hk))
    subst hx
    have m1 : 0 ≤ l[k].cr * p.uses := Int.mul_nonneg c0 (by omega)
    have m2 : l[k].cr * p.uses ≤ 60 * 4 := Int.mul_le_mul c1 hu2 (by omega) (by omega)
    dsimp only at hno ⊢
    omega
  · obtain ⟨x, hx, rfl⟩ := List.mem_map.1 he
    obtain ⟨a, b, c⟩ := pairsL_mem hx
    obtain ⟨c0, c1⟩ := attOk_cr (hatt _ (List.getElem_mem a))
    unfold edgeP at hno ⊢
    rw [List.getElem?_eq_getElem a] at hno ⊢
    simp only [Option.map_some, Option.getD_some] at hno ⊢
    omega
  · obtain ⟨k, hk, hx⟩ := mem_upTo he
    unfold edgeR at hx
    rw [List.getElem?_eq_getElem hk] at hx
    simp at hx
    obtain ⟨c0, c1⟩ := hq _ (List.getElem_mem hk)
    subst hx
    dsimp only at hno ⊢
    omega
theorem netL_len {p : Prg} {l : List Att} (h : netE p l = 0) (hm : l.length ≤ 60) : (netL p l).length ≤ 5000 := by
  obtain ⟨h1, _⟩ := netE_ok h
  obtain ⟨_, _, hr, _⟩ := prg_ok h1
  have h2 := pairsL_le p.reqs l
  have h3 : l.length * p.reqs.length ≤ 60 * 64 := Nat.mul_le_mul hm hr
  have h4 := upTo_len1 (edgeA_le p.uses l) l.length
  have h5 := upTo_len1 (edgeR_le l.length p.reqs) p.reqs.length
  unfold netL
  simp only [List.length_append, List.length_map]
  omega
theorem net_ends {p : Prg} {l : List Att} (h : netE p l = 0) (hm : l.length ≤ 60) : endsE ((2 + l.length + p.reqs.length : Nat) : Int) ((0 : Nat) : Int) ((1 + l.length + p.reqs.length : Nat) : Int) (netL p l) = 0 := by
  obtain ⟨h1, _⟩ := netE_ok h
  obtain ⟨_, _, hr, _⟩ := prg_ok h1
  have hf : flowE ((2 + l.length + p.reqs.length : Nat) : Int) (netL p l) = 0 := by
    unfold flowE
    rw [if_pos]
    refine ⟨by omega, by omega, by have := netL_len h hm; omega, List.all_eq_true.2 (netL_ok h)⟩
  unfold endsE
  rw [if_pos]
  simp only [endsB, nodeB, hf, Bool.and_eq_true, decide_eq_true_eq]
  exact ⟨⟨⟨trivial, by omega, by omega⟩, by omega, by omega⟩, by omega⟩

theorem zip_snoc {α β : Type} {b : β} : ∀ {xs : List α} {ys : List β} {x : α}, ys[xs.length]? = some b → (xs ++ [x]).zip ys = xs.zip ys ++ [(x, b)]
  | [], y :: ys, x, h => by simp at h; simp [h]
  | a :: xs, y :: ys, x, h => by
    have := zip_snoc (xs := xs) (ys := ys) (x := x) (by simpa using h)
    simp [this]
theorem usesL_snoc {ps : List (Nat × Int)} {G : List Int} {x : Nat × Int} {f : Int} (h : G[ps.length]? = some f) : usesL (ps ++ [x]) G = usesL ps G ++ (if 0 < f then [⟨x.1, x.2, f⟩] else []) := by
  unfold usesL
  rw [zip_snoc h, List.filterMap_append]
  congr 1
  by_cases hf : 0 < f <;> simp [hf]
theorem usesL_take (ps : List (Nat × Int)) (G : List Int) : usesL ps (G.take ps.length) = usesL ps G := by
  unfold usesL
  have : ∀ (ps : List (Nat × Int)) (G : List Int), ps.zip (G.take ps.length) = ps.zip G := by
    intro ps
    induction ps with
    | nil => intro G; simp
    | cons a ps ih => intro G; cases G with
      | nil => simp
      | cons g G => simp [ih]
  rw [this]
theorem usesL_len (ps : List (Nat × Int)) (G : List Int) : (usesL ps G).length ≤ ps.length := by
  unfold usesL
  refine Nat.le_trans (List.length_filterMap_le _ _) ?_
  rw [List.length_zip]; omega
end Go.Proofs.YtaiibchadlaifaaGreatDoor
