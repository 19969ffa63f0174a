/-
  The reference of averages: which attempts are valid, the sums. Conditions: the arguments read as data, at most a million attempts.
  average.weights, an iterator over attempts: what it hands to each round; average.Sums and Earned. Conditions: the arguments read as data, at most a million attempts.
  Regions that draw their order, within a fence and within a round of a range over a function; what an iterator's own rows ask of a loop's body. Conditions: none.
  degree.pairs, an iterator over attempts and eligible requirements: what it hands to each round. Conditions: the arguments read as data, at most 1000 requirements.
  degree.Network: what it returns. Conditions: the arguments read as data, at most 100000 attempts.
  A region that draws its order: reads (the same in every world that meets S), one operation that makes memory and keeps S, then a tail in one order. Conditions: none.
  degree.Network at a valid programme and valid attempts: its edges. Conditions: the arguments read as data, at most 100000 attempts.
  The reference's Check of a programme: what it returns. Conditions: the programme reads as data.
  The reference's Check of a programme, where its numbers are valid. Conditions: the programme reads as data.
  The reference's Network: its edges. Conditions: the arguments read as data, at most 100000 attempts.
-/
import Derived.Shelf.Abstract
import Derived.Shelf.RegionOpen
import Derived.OwnWalkIn
import Derived.TacticsInMore
import Derived.LoopNIn
import Derived.LoopIn
import Derived.OrdersHeld
import Derived.Test.YtaiibchadlaifaaGreatDoorZa
set_option linter.unusedVariables false
set_option linter.unusedSimpArgs false

namespace Go.Proofs.YtaiibchadlaifaaGreatDoor
open Go.RowKit

set_option maxRecDepth 100000 in
set_option maxHeartbeats 2000000 in
theorem ref15_Valid_c (a : Att) (w : World) : Calls Tryz.prog 140 #[.agg #[.int .i64 a.c, .int .i64 a.t, .int .i64 a.g, .int .i64 a.cam, .int .i64 a.cr]] w fun e w' => e = .returned (.bool (attOk a)) ∧ Below w.heap.size w w' := by
  go_enter Tryz.func140, Tryz.ntmps140
  go_wp2
  all_goals (go_ret; exact ⟨ret_congr (by first | (simp [attOk, inB]; omega) | (simp [attOk, inB, *]; done) | (simp [attOk, inB, *]; omega)), below1 _ _⟩)

set_option maxRecDepth 100000 in
set_option maxHeartbeats 2000000 in
theorem ref15_check_c (w : World) (A : Option Addr) (cap : Nat) (l : List Att) (h : Rd kAtt w A l) :
    Calls Tryz.prog 83 #[.slice A l.length cap] w fun e w' => e = .returned (.int .i64 (attsE l)) ∧ Below w.heap.size w w' := by
  have hl := h.len
  go_enter Tryz.func83, Tryz.ntmps83
  go_wp2
  go_loopw [3] (fun i wr => ∃ k : Nat, k ≤ l.length ∧ i = .int .i64 k ∧ Hid ((l.take k).all attOk = true) ∧ Below w.heap.size w wr) (fun i _ => l.length - (intOf i).toNat)
  case atStart => exact ⟨0, Nat.zero_le _, rfl, rfl, Below.refl _ _⟩
  case round =>
    obtain ⟨k, hk, rfl, hno, hBr⟩ := hrel
    by_cases hlt : k < l.length
    · obtain ⟨x, b, off, hx, rfl, hb, f0, f1, f2, f3, f4⟩ := kAtt_get (h.below hBr) hlt
      have hc := ref15_Valid_c x wr
      have ht : Hid ((l.take (k + 1)).all attOk = attOk x) := by show _ = _; rw [take_snoc_get hx.out, List.all_append, hno.out]; simp
      clear h
      cases hq : attOk x with
      | true =>
        rw [hq] at hc ht
        go_wp2_with (go_at_call 140; refine hc.mono ?_; rintro e w3 ⟨rfl, hb3⟩)
        go_roundw
        case rel => exact ⟨k + 1, hlt, by go_num, ht, bthen hBr hb3⟩
        case measure => simp [intOf]; omega
      | false =>
        rw [hq] at hc
        have hE : Hid (attsE l = 150) := by
          have : l.all attOk = false := by
            rw [← Bool.not_eq_true, List.all_eq_true]
            intro h3; have := h3 x (List.mem_of_getElem? hx.out); rw [hq] at this; cases this
          show _ = _; rw [attsE, this]; rfl
        go_wp2_with (go_at_call 140; refine hc.mono ?_; rintro e w3 ⟨rfl, hb3⟩)
        go_ret
        exact ⟨ret_congr (by rw [hE.out]; rfl), bthen hBr hb3⟩
    · have hE : Hid (attsE l = 0) := by show _ = _; have := hno.out; rw [List.take_of_length_le (by omega)] at this; rw [attsE, this]; rfl
      go_wp2
      go_ret
      exact ⟨ret_congr (by rw [hE.out]; rfl), hBr⟩

def credC (l : List Att) : Int := (l.map fun a => a.cr).sum
def ptsC (l : List Att) : Int := (l.map fun a => a.g * a.cr).sum
theorem credC_snoc (l : List Att) (a : Att) : credC (l ++ [a]) = credC l + a.cr := by simp [credC]
theorem ptsC_snoc (l : List Att) (a : Att) : ptsC (l ++ [a]) = ptsC l + a.g * a.cr := by simp [ptsC]
theorem attOk_bd {a : Att} (h : attOk a = true) : 0 ≤ a.g ∧ a.g ≤ 12 ∧ 0 ≤ a.cr ∧ a.cr ≤ 60 ∧ 0 ≤ a.g * a.cr ∧ a.g * a.cr ≤ 720 := by
  simp [attOk, inB] at h
  obtain ⟨⟨⟨⟨_, _⟩, h1, h2⟩, _⟩, h3, h4⟩ := h
  have h5 : a.g * a.cr ≤ 12 * 60 := Int.mul_le_mul h2 h4 h3 (by omega)
  exact ⟨h1, h2, h3, h4, Int.mul_nonneg h1 h3, by omega⟩
theorem sums_bd (l : List Att) (h : l.all attOk = true) : 0 ≤ credC l ∧ credC l ≤ 60 * l.length ∧ 0 ≤ ptsC l ∧ ptsC l ≤ 720 * l.length := by
  induction l with
  | nil => simp [credC, ptsC]
  | cons x xs ih =>
    rw [List.all_cons, Bool.and_eq_true] at h
    have := ih h.2; have := attOk_bd h.1
    simp [credC, ptsC] at *; omega

set_option maxRecDepth 100000 in
set_option maxHeartbeats 2000000 in
theorem ref15_Sums_c (w : World) (A : Option Addr) (cap : Nat) (l : List Att) (h : Rd kAtt w A l) (hn : l.length ≤ 1000000) :
    Calls Tryz.prog 44 #[.slice A l.length cap] w fun e w' =>
      e = .returned (if l.all attOk then .tuple #[.int .i64 (credC l), .int .i64 (ptsC l), .int .i64 0] else .tuple #[.int .i64 0, .int .i64 0, .int .i64 150]) ∧ Below w.heap.size w w' := by
  have hl := h.len
  have hc := ref15_check_c w A cap l h
  cases hq : l.all attOk with
  | false =>
    have hE : attsE l = 150 := by unfold attsE; rw [hq]; rfl
    rw [hE] at hc
    clear hq hE
    go_enter Tryz.func44, Tryz.ntmps44
    go_wp2_with (go_at_call 83; refine hc.mono ?_; rintro e w1 ⟨rfl, hb1⟩)
    go_ret3
    exact ⟨rfl, hb1⟩
  | true =>
    have hE : attsE l = 0 := by unfold attsE; rw [hq]; rfl
    rw [hE] at hc
    clear hE
    have HQ : Hid (l.all attOk = true) := hq
    clear hq
    go_enter Tryz.func44, Tryz.ntmps44
    go_wp2_with (go_at_call 83; refine hc.mono ?_; rintro e w1 ⟨rfl, hb1⟩)
    clear hc
    go_loopw [6, 7, 8] (fun c p i wr => ∃ k : Nat, k ≤ l.length ∧ i = .int .i64 k ∧ c = .int .i64 (credC (l.take k)) ∧ p = .int .i64 (ptsC (l.take k)) ∧ Below w.heap.size w wr) (fun _ _ i _ => l.length - (intOf i).toNat)
    case atStart => exact ⟨0, Nat.zero_le _, rfl, rfl, rfl, hb1⟩
    case round =>
      obtain ⟨k, hk, rfl, rfl, rfl, hBr⟩ := hrel
      by_cases hlt : k < l.length
      · obtain ⟨x, b, off, hx, rfl, hb, f0, f1, f2, f3, f4⟩ := kAtt_get (h.below hBr) hlt
        have hok : attOk x = true := List.all_eq_true.1 HQ.out x (List.mem_of_getElem? hx.out)
        obtain ⟨g1, g2, g3, g4, g5, g6⟩ := attOk_bd hok
        obtain ⟨s1, s2, s3, s4⟩ := sums_bd (l.take k) (by rw [List.all_eq_true]; exact fun y hy => List.all_eq_true.1 HQ.out y (List.mem_of_mem_take hy))
        have s5 : (l.take k).length ≤ 1000000 := by rw [List.length_take]; omega
        have t1 : Hid (credC (l.take (k + 1)) = credC (l.take k) + x.cr) := by show _ = _; rw [take_snoc_get hx.out, credC_snoc]
        have t2 : Hid (ptsC (l.take (k + 1)) = ptsC (l.take k) + x.g * x.cr) := by show _ = _; rw [take_snoc_get hx.out, ptsC_snoc]
        obtain ⟨t, htt⟩ : ∃ t, t = credC (l.take k) := ⟨_, rfl⟩
        obtain ⟨u, huu⟩ : ∃ u, u = ptsC (l.take k) := ⟨_, rfl⟩
        rw [← htt] at s1 s2 t1 ⊢
        rw [← huu] at s3 s4 t2 ⊢
        have hm : wrap64 (x.g * x.cr) = x.g * x.cr := by unfold wrap64; omega
        have hm2 : wrap64 (u + x.g * x.cr) = u + x.g * x.cr := by unfold wrap64; omega
        clear h htt huu hok
        go_wp2
        go_quiet (fail)
        go_wp2
        go_roundw
        case rel => exact ⟨k + 1, hlt, by go_num, by rw [t1.out], by rw [t2.out], hBr.trans (below_drewN2 _ _ _)⟩
        case measure => simp [intOf]; omega
      · have t1 : Hid (credC (l.take k) = credC l) := by show _ = _; rw [List.take_of_length_le (by omega)]
        have t2 : Hid (ptsC (l.take k) = ptsC l) := by show _ = _; rw [List.take_of_length_le (by omega)]
        go_wp2
        go_ret3
        exact ⟨ret_congr (by rw [← t1.out, ← t2.out]; rfl), hBr⟩
end Go.Proofs.YtaiibchadlaifaaGreatDoor

namespace Go.Proofs.YtaiibchadlaifaaGreatDoor
open Go.RowKit Go.Shelf
attribute [local go_sem] Oper.semAt_some

abbrev AttP (p : Att → Bool) := { a : Att // p a = true }
abbrev encW {p : Att → Bool} (x : AttP p) : Array Value := #[.int .i64 x.1.g, .int .i64 x.1.cr]

set_option maxRecDepth 100000 in
set_option maxHeartbeats 2000000 in
theorem weights_stops (n : Nat) (hn : 1 ≤ n) (Bn n₀ : Nat) (A : Option Addr) (cap : Nat) (p : Att → Bool) (ls : List (AttP p)) (w : World) (hBn : Bn < w.heap.size) (hn0 : n₀ ≤ w.heap.size)
    (hc : w.cell? ⟨Bn, 0, none⟩ = some (.slice A (ls.map (·.1)).length cap)) (hr : SRd n₀ kAtt w A (ls.map (·.1))) :
    SeqStopsK F0 n Tryz.prog 139 #[.pointer (some ⟨Bn, 0, none⟩)] (encW (p := p)) (Below n₀) (fun ys => ys = ls) (fun pre => ∃ k, k ≤ ls.length ∧ pre = ls.take k) ls.length w := fun l J Jx W hW hJ hJx hY h0 => by
  have hc' : W.cell? ⟨Bn, 0, none⟩ = some (.slice A (ls.map (·.1)).length cap) := (hW.cell (p := ⟨Bn, 0, none⟩) hBn).trans hc
  have hrW := hr.below (hW.mono hn0)
  have hlm : (ls.map (·.1)).length = ls.length := List.length_map _
  have hl := hr.rd.len
  rw [hlm] at hl hc'
  have hnW : n₀ ≤ W.heap.size := Nat.le_trans hn0 hW.size
  clear hW hc hr hn0 hBn
  refine callsIn_of_wp Tryz.func139 rfl trivial ?_ rfl
  simp only [Tryz.ntmps139, List.size_toArray, List.length_cons, List.length_nil, Nat.reduceAdd, Nat.reduceSub, Array.replicate_succ, Array.replicate_zero, List.push_toArray, List.append_toArray, List.nil_append, List.cons_append]
  gi_wp2
  gi_loopw [4, 7] (fun _ i wr => ∃ k : Nat, k ≤ ls.length ∧ i = .int .i64 k ∧ J (ls.take k) wr ∧ Below n₀ W wr ∧ W.heap.size ≤ wr.heap.size) (fun _ i _ => ls.length - (intOf i).toNat)
  case atStart => exact ⟨0, Nat.zero_le _, rfl, h0, Below.refl _ _, Nat.le_refl _⟩
  case round =>
    obtain ⟨k, hk, rfl, hJs, hnx, hsz⟩ := hrel
    by_cases hlt : k < ls.length
    · obtain ⟨x, hx⟩ : ∃ x, ls[k]? = some x := ⟨_, List.getElem?_eq_getElem hlt⟩
      obtain ⟨y, b, off, hy0, rfl, hb, f0, f1, f2, f3, f4⟩ := kAtt_get (hrW.below hnx).rd (k := k) (by rw [hlm]; exact hlt)
      have hxy : y = x.1 := by have := hy0.out; rw [List.getElem?_map, hx] at this; exact (Option.some.inj this).symm
      subst hxy
      have hts : Hid (ls.take (k + 1) = ls.take k ++ [x]) := take_snoc_get hx
      have hJa := hJ _ _ _ none hJs (World.grownBy_alloc wr (.cells #[.int .i64 x.1.c, .int .i64 x.1.t, .int .i64 x.1.g, .int .i64 x.1.cam, .int .i64 x.1.cr] 28) none) (fun r e => by cases e)
      obtain ⟨fn, tmps, assign, body, hy, hR⟩ := hY _ x _ hJa (by rw [List.length_take]; omega)
      dsimp only [encW] at hy
      clear hrW hx hy0 hlm hY
      gi_wp2
      refine hR.mono ?_
      rintro e W3 (⟨rfl, hJ3, hk3⟩ | ⟨rfl, hJx3⟩)
      · have hs3 := hk3.size
        simp only [World.size_alloc] at hs3
        gi_wp2
        go_roundw
        case rel => exact ⟨k + 1, hlt, by go_num, by rw [hts.out]; exact hJ3, (hnx.alloc (by omega) _).trans hk3, by omega⟩
        case measure => simp [intOf]; omega
      · gi_wp2
        refine bodyPost_ret (results_none rfl _ _ _) rfl ?_
        exact ⟨⟨_, rfl⟩, .inr ⟨_, ⟨k + 1, hlt, hts.out.symm⟩, hJx3⟩⟩
    · obtain rfl : k = ls.length := by omega
      rw [List.take_length] at hJs
      gi_wp2
      go_end0
      exact ⟨⟨_, rfl⟩, .inl ⟨_, rfl, hJs⟩⟩

set_option maxHeartbeats 1000000 in
theorem weights_c (A : Option Addr) (n cap : Nat) (w : World) :
    Calls Tryz.prog 81 #[.slice A n cap] w fun e w' => e = .returned (.func (.func 139) #[] #[.pointer (some ⟨w.heap.size, 0, none⟩)]) ∧ w' = w.alloc (.cells #[.slice A n cap] 37) := by
  go_enter Tryz.func81, Tryz.ntmps81
  go_wp2
  go_ret
  exact ⟨rfl, rfl⟩

set_option maxRecDepth 100000 in
set_option maxHeartbeats 4000000 in
theorem average_Sums_c (w : World) (A : Option Addr) (cap : Nat) (l : List Att) (h : Rd kAtt w A l) (hn : l.length ≤ 1000000) :
    Calls Tryz.prog 42 #[.slice A l.length cap] w fun e w' =>
      e = .returned (if l.all attOk then .tuple #[.int .i64 (credC l), .int .i64 (ptsC l), .int .i64 0] else .tuple #[.int .i64 0, .int .i64 0, .int .i64 150]) ∧ Below w.heap.size w w' := by
  cases hq : l.all attOk with
  | false =>
    have hE : attsE l = 150 := by unfold attsE; rw [hq]; rfl
    have hc : ∀ W, Below w.heap.size w W → Calls Tryz.prog 80 #[.slice A l.length cap] W fun e w' => e = .returned (.int .i64 150) ∧ Below W.heap.size W w' := fun W hb => by have := average_check_c W A cap l (h.below hb); rwa [hE] at this
    clear hq hE h
    go_enter Tryz.func42, Tryz.ntmps42
    go_wp2_with (go_at_call 80; refine (hc _ (below2 _ _ _)).mono ?_; rintro e w1 ⟨rfl, hb1⟩; have hc0 : w1.cell? ⟨w.heap.size, 0, none⟩ = some (.int .i64 0) := ((bcell hb1).1 _ _ (by simp; omega)).trans (by simp); have hc1 : w1.cell? ⟨w.heap.size + 1, 0, none⟩ = some (.int .i64 0) := ((bcell hb1).1 _ _ (by simp)).trans (by simp); have hf0 : w1.frozen? ⟨w.heap.size, 0, none⟩ = false := ((bcell hb1).2 _ _ (by simp; omega)).trans (by simp); have hf1 : w1.frozen? ⟨w.heap.size + 1, 0, none⟩ = false := ((bcell hb1).2 _ _ (by simp)).trans (by simp); have hz1 : w.heap.size + 1 < w1.heap.size := by have := hb1.size; simp at this; omega)
    exact bodyPost_ret (v := .tuple #[.int .i64 0, .int .i64 0, .int .i64 150]) (by simp [results, Tryz.results42, go_sem, hc0, hc1]) rfl ⟨rfl, ((bthen (below2 _ _ _) hb1).setCell (p := ⟨w.heap.size, 0, none⟩) (by simp) _).setCell (p := ⟨w.heap.size + 1, 0, none⟩) (by simp) _⟩
  | true =>
    have hE : attsE l = 0 := by unfold attsE; rw [hq]; rfl
    have hc : ∀ W, Below w.heap.size w W → Calls Tryz.prog 80 #[.slice A l.length cap] W fun e w' => e = .returned (.int .i64 0) ∧ Below W.heap.size W w' := fun W hb => by have := average_check_c W A cap l (h.below hb); rwa [hE] at this
    obtain ⟨ls, hls⟩ : ∃ ls : List (AttP attOk), ls.map (·.1) = l := exists_sub (by simpa using hq)
    clear hE hq
    refine (callsIn_wide (n := 10)).1 ?_
    refine callsIn_of_wp_marks Tryz.func42 rfl trivial ?_ rfl
    simp only [Tryz.ntmps42, List.size_toArray, List.length_cons, List.length_nil, Nat.reduceAdd, Nat.reduceSub, Array.replicate_succ, Array.replicate_zero, List.push_toArray, List.append_toArray, List.nil_append, List.cons_append]
    gi_wp2_with (first
      | (refine ⟨trivial, ?_⟩; gi_at_call 80; refine (callsIn_wide.2 (hc _ (below2 _ _ _))).mono ?_; rintro e w1 ⟨rfl, hb1⟩; have hc0 : w1.cell? ⟨w.heap.size, 0, none⟩ = some (.int .i64 0) := ((bcell hb1).1 _ _ (by simp; omega)).trans (by simp); have hc1 : w1.cell? ⟨w.heap.size + 1, 0, none⟩ = some (.int .i64 0) := ((bcell hb1).1 _ _ (by simp)).trans (by simp); have hf0 : w1.frozen? ⟨w.heap.size, 0, none⟩ = false := ((bcell hb1).2 _ _ (by simp; omega)).trans (by simp); have hf1 : w1.frozen? ⟨w.heap.size + 1, 0, none⟩ = false := ((bcell hb1).2 _ _ (by simp)).trans (by simp); have hz1 : w.heap.size + 1 < w1.heap.size := by have := hb1.size; simp at this; omega)
      | (refine ⟨trivial, ?_⟩; gi_at_call 81; refine (callsIn_wide.2 (weights_c _ _ _ _)).mono ?_; rintro e w2 ⟨rfl, rfl⟩))
    have hB := bthen (below2 _ _ _) hb1
    have hB4 : Below w.heap.size w (w1.alloc (.cells #[.slice A l.length cap] 37)) := hB.alloc hB.size _
    have hlen : ls.length = l.length := by rw [← hls, List.length_map]
    refine wpIn_rangeFunc_ownF rfl (by omega) (gf := 139) (lb := #[.pointer (some ⟨w1.heap.size, 0, none⟩)]) rfl trivial (enters_of Tryz.func139 (by kernel_rfl) rfl)
      (weights_stops 9 (by omega) w1.heap.size w.heap.size A cap attOk ls _ (by simp) (by simp; omega) (by rw [hls]; simp) (by rw [hls]; exact h.s.below hB4)) belowK_t (belowK_b (by simp; omega)) (Below.refl _ _) (fun _ => rfl)
      (fun pre W => (W.cell? ⟨w.heap.size, 0, none⟩ = some (.int .i64 (credC (pre.map (·.1)))) ∧ W.frozen? ⟨w.heap.size, 0, none⟩ = false ∧ W.cell? ⟨w.heap.size + 1, 0, none⟩ = some (.int .i64 (ptsC (pre.map (·.1)))) ∧ W.frozen? ⟨w.heap.size + 1, 0, none⟩ = false) ∧ Below w.heap.size w W)
      (fun _ _ _ => False)
      (OwnFrom.and (Own.from (fun s A B row hs hg hr => ⟨cell_kept hs.1 hg hr, (frozen_kept hs.1 hg hr).trans hs.2.1, cell_kept hs.2.2.1 hg hr, (frozen_kept hs.2.2.1 hg hr).trans hs.2.2.2⟩) _) (ownFrom_below (Nat.le_refl _) (by simp; omega)))
      (fun _ _ _ _ _ hs _ _ => hs)
      ⟨⟨by simpa [credC, World.cell?_alloc_past, (show w.heap.size < w1.heap.size by omega)] using hc0, by simpa [World.frozen?_alloc_past, (show w.heap.size < w1.heap.size by omega)] using hf0, by simpa [ptsC, World.cell?_alloc_past, hz1] using hc1, by simpa [World.frozen?_alloc_past, hz1] using hf1⟩, hB4⟩
      (fun x => { tmps := #[.slice A l.length cap, undef, .pointer (some ⟨w.heap.size, 0, none⟩), .pointer (some ⟨w.heap.size + 1, 0, none⟩), .int .i64 0, .int .i64 x.1.g, .int .i64 x.1.cr, .slice A l.length cap, .int .i64 0, .int .i64 0, .bool false, undef, .slice A l.length cap, .func (.func 139) #[] #[.pointer (some ⟨w1.heap.size, 0, none⟩)], .int .i64 x.1.g, .int .i64 x.1.cr, undef, undef, undef, undef, undef, undef, undef, undef, undef, undef], defers := [] }) ?assign ?body ?done ?stop
    case assign =>
      intro l x W K hK
      gi_wp2
      exact hK
    case body =>
      rintro l' pre x W ⟨⟨c0, z0, c1, z1⟩, hBW⟩ hpl
      obtain ⟨g1, g2, g3, g4, g5, g6⟩ := attOk_bd x.2
      obtain ⟨s1, s2, s3, s4⟩ := sums_bd (pre.map (·.1)) (by rw [List.all_eq_true]; intro y hy; obtain ⟨z, _, rfl⟩ := List.mem_map.1 hy; exact z.2)
      rw [List.length_map] at s2 s4
      have t1 : Hid (credC ((pre ++ [x]).map (·.1)) = credC (pre.map (·.1)) + x.1.cr) := by show _ = _; rw [List.map_append, List.map_singleton, credC_snoc]
      have t2 : Hid (ptsC ((pre ++ [x]).map (·.1)) = ptsC (pre.map (·.1)) + x.1.g * x.1.cr) := by show _ = _; rw [List.map_append, List.map_singleton, ptsC_snoc]
      obtain ⟨t, htt⟩ : ∃ t, t = credC (pre.map (·.1)) := ⟨_, rfl⟩
      obtain ⟨u, huu⟩ : ∃ u, u = ptsC (pre.map (·.1)) := ⟨_, rfl⟩
      rw [← htt] at s1 s2 t1 c0
      rw [← huu] at s3 s4 t2 c1
      have hm : wrap64 (x.1.g * x.1.cr) = x.1.g * x.1.cr := by unfold wrap64; omega
      have hm2 : wrap64 (u + x.1.g * x.1.cr) = u + x.1.g * x.1.cr := by unfold wrap64; omega
      clear htt huu h hls hc hb1 hc0 hc1 hf0 hf1
      gi_wp2
      refine ⟨(KeepsOthers.setCell _ _ _).trans (KeepsOthers.setCell _ _ _), ((Below.refl _ W).setCell (p := ⟨w.heap.size, 0, none⟩) (by simp) _).setCell (p := ⟨w.heap.size + 1, 0, none⟩) (by simp) _, ⟨?_, ?_, ?_, ?_⟩, (hBW.setCell (p := ⟨w.heap.size, 0, none⟩) (by simp) _).setCell (p := ⟨w.heap.size + 1, 0, none⟩) (by simp) _⟩
      · rw [t1.out]; simp [World.cell?_setCell_other, World.cell?_setCell_same' W ⟨w.heap.size, 0, none⟩ _ (by rw [c0]; rfl)]
      · simp [World.frozen?_setCell, z0]
      · rw [t2.out]; exact World.cell?_setCell_same' _ _ _ (by simp [World.cell?_setCell_other, c1])
      · simp [World.frozen?_setCell, z1]
    case done =>
      rintro D ys W hD rfl ⟨⟨c0, z0, c1, z1⟩, hBW⟩ hK
      rw [hls] at c0 c1
      gi_wp2
      gi_region
      gi_wp2
      obtain ⟨W5, hW5⟩ : ∃ W5, W5 = ((W.setCell ⟨w.heap.size, 0, none⟩ (.int .i64 (credC l))).setCell ⟨w.heap.size + 1, 0, none⟩ (.int .i64 (ptsC l))).drew := ⟨_, rfl⟩
      have hK2 : W5.heap[D]? = some (.deferred (some [])) := by rw [hW5]; exact ((KeepsOthers.setCell W _ _).trans (KeepsOthers.setCell _ _ _)).same D _ hK rfl
      have d0 : W5.cell? ⟨w.heap.size, 0, none⟩ = some (.int .i64 (credC l)) := by rw [hW5]; simp [World.cell?_setCell_other, World.cell?_setCell_same' W ⟨w.heap.size, 0, none⟩ _ (by rw [c0]; rfl)]
      have d1 : W5.cell? ⟨w.heap.size + 1, 0, none⟩ = some (.int .i64 (ptsC l)) := by rw [hW5]; exact World.cell?_setCell_same' _ _ _ (by simp [World.cell?_setCell_other, c1])
      have hB5 : Below w.heap.size w W5 := by rw [hW5]; exact ((hBW.setCell (p := ⟨w.heap.size, 0, none⟩) (by simp) _).setCell (p := ⟨w.heap.size + 1, 0, none⟩) (by simp) _).drew
      rw [← hW5]
      have e0 := cell_kept d0 (grownBy_putObj' _ D (.deferred none)) (fun r e => by cases e; exact ⟨_, hK2, rfl⟩)
      have e1 := cell_kept d1 (grownBy_putObj' _ D (.deferred none)) (fun r e => by cases e; exact ⟨_, hK2, rfl⟩)
      refine ⟨by simp, .inl ⟨_, _, rfl, run_takeDeferred hK2, ?_⟩⟩
      exact ⟨.tuple #[.int .i64 (credC l), .int .i64 (ptsC l), .int .i64 0], by simp [results, Tryz.results42, go_sem, e0, e1], rfl, hB5.trans (belowK_b (w := w) (Nat.le_refl _) W5 D _ _ (by simp at hD; omega) hK2 rfl rfl)⟩
    case stop =>
      rintro D c pre W _ _ h _
      exact h.elim
end Go.Proofs.YtaiibchadlaifaaGreatDoor

namespace Go.Proofs.YtaiibchadlaifaaGreatDoor
open Go.RowKit Go.Shelf

/-- The wide fence, in a round or not. -/
abbrev FR (ro : Option Nat) : Fence := { Fence.wide with round := ro }
theorem callsIn_FR {ro : Option Nat} {n : Nat} {P : Program} {f : FuncId} {args : Array Value} {w : World} {R : Ending → World → Prop} (h : Calls P f args w R) : CallsIn (FR ro) n P f args w R := callsIn_wide.2 h
theorem rowsIn_FR {ro : Option Nat} {n : Nat} {P : Program} {row : String} {args : Array Value} {w : World} {R : Value → World → Prop} (h : Rows P row args w R) : RowsIn (FR ro) n P row args w R :=
  fun c cs _ => let ⟨v, w', r, s⟩ := h c cs; ⟨v, w', r, stepsIn_wide.2 s⟩

theorem uponIn_of {ro : Option Nat} {n : Nat} {P : Program} {o : Oper} {a : Act} {next next' : Act → World → Prop} {Q : Exit → Act → World → Prop} (hK : ∀ a w, next a w → next' a w) : ∀ {r : Result Next}, o.upon P a next Q r → o.uponIn (FR ro) n P a next' Q r
  | .ok (.value _) _, h => hK _ _ h
  | .ok .skip _, h => hK _ _ h
  | .ok (.defer _) _, h => hK _ _ h
  | .ok (.enter _ _) _, h => ⟨fun e => by simp [Fence.wide] at e, callsIn_FR (h.mono fun e w' k => by cases e <;> first | exact hK _ _ k | exact k)⟩
  | .ok (.row _ _) _, h => ⟨fun e => by simp [Fence.wide] at e, rowsIn_FR (fun c cs => let ⟨v, w', r, s⟩ := h c cs; ⟨v, w', hK _ _ r, s⟩)⟩
  | .halt (.panic _) _, h => h
  | .ok (.round ..) _, h => h.elim

def noDefer (ops : Array Oper) : Bool := ops.all fun o => match o.op with | .defer _ => false | _ => true

theorem wpOpIn_of {ro : Option Nat} {n : Nat} {P : Program} {ops : Array Oper} {Q : Exit → Act → World → Prop} {i : Nat} {K K' : Act → World → Prop} {a : Act} {w : World} (hQ : ¬ LetsOut Q) (hd : noDefer ops = true) (hK : ∀ a w, K a w → K' a w)
    (h : wpOp P ops Q i K a w) : wpOpIn (FR ro) n P ops Q i K' a w := by
  unfold wpOp at h
  unfold wpOpIn
  cases ho : ops[i]? with
  | none => rw [ho] at h; exact hK _ _ h
  | some o =>
    rw [ho] at h
    dsimp only at h ⊢
    have hnd : ∀ c, o.op ≠ .defer c := by
      intro c e
      have := Array.all_eq_true_iff_forall_mem.1 hd o (Array.mem_of_getElem? ho)
      rw [e] at this; cases this
    split
    · rename_i hw
      rw [if_pos hw] at h
      rcases h with h | ⟨_, h⟩
      · refine ⟨fun _ _ => trivial, ?_⟩
        rw [Oper.semAt_eq _ _ _ hnd]
        exact uponIn_of hK h
      · exact absurd h hQ
    · rename_i hw
      rw [if_neg hw] at h
      exact ⟨fun _ _ => trivial, hK _ _ h⟩

theorem wpAnyIn_of {ro : Option Nat} {n : Nat} {P : Program} {md : Region.Mode} {ops : Array Oper} {Q : Exit → Act → World → Prop} (hQ : ¬ LetsOut Q) (hd : noDefer ops = true) : ∀ (fuel : Nat) (listed : Array Bool) (a : Act) (w : World),
    wpAny P md ops Q fuel listed a w → wpAnyIn (FR ro) n P md ops Q fuel listed a w
  | 0, _, _, _, h => h
  | fuel + 1, _, _, _, h => ⟨h.1, fun i hi => wpOpIn_of hQ hd (fun a w k => wpAnyIn_of hQ hd fuel _ a w k) (h.2 i hi)⟩

/-- Reads and quiet calls, then a tail in one order: as Derived.StillTail has it, within a fence. -/
theorem wpIn_still_tail {ro : Option Nat} {m : Nat} {P : Program} {id : Nat} {Q : Exit → Act → World → Prop} {a : Act} {w : World} {l : List Oper} (n : Nat) (hQ : ¬ LetsOut Q) (hm : P.follows .mixedOrders = true) (hB : Region.lexTailB .any l.toArray n = true) (hd : noDefer l.toArray = true)
    (h : wpStill P l.toArray { w with drawn := w.drawn + 1 } (fun a' => wpList P l.toArray Q (l.drop n) a' { w with drawn := w.drawn + 1 }) (l.take n) a) : (Code.region id l.toArray true).wpIn (FR ro) m P Q a w := by
  simp only [Region.lexTailB, Bool.and_eq_true, decide_eq_true_eq] at hB
  obtain ⟨⟨⟨⟨hsel, hn⟩, hs⟩, hc⟩, hlex⟩ := hB
  have hn' : n < l.length := by simpa using hn
  have htl : (l.take n).length = n := by simp; omega
  have hdl : (l.drop n).length = l.toArray.size - n := by simp
  have inv0 : HeadInv .any l.toArray n (Array.replicate l.toArray.size false) :=
    ⟨by simp, fun j oj _ hl => (by rw [getD_replicate_false] at hl; cases hl), fun t _ ht => getD_in (by simpa using ht) (getD_replicate_false _ _)⟩
  have H := wpAnyL_lex (md := .any) (g := l.toArray.size - n) hsel hs hc hn (l.take n) 0 _ a (fun j hj => by
    have hj' : j < n := by rw [htl] at hj; exact hj
    simp [hj']) (by simpa using htl) inv0 (by rw [htl]; exact hlex) h
  refine wpIn_region_any hm (wpAnyIn_of hQ hd _ _ _ _ ?_)
  have := wpAny_of_head (Q' := Q) (g := l.toArray.size - n) (fun listed a' hL => by
    have := wpAny_of_seq (md := .any) (Q' := Q) (l.drop n) n listed a' { w with drawn := w.drawn + 1 } (fun j => by simp [List.getElem?_drop]) (by rw [hdl]; exact hL.1) hL.2
    rwa [hdl] at this) _ _ _ H
  rw [htl, show n + (l.toArray.size - n) = l.toArray.size by omega] at this
  exact this

/-- Every row of elements of the types S that lies at or beyond n lies as it lay. -/
structure KeepT (S : List TypeId) (n : Nat) (W W' : World) : Prop where
  size : W.heap.size ≤ W'.heap.size
  same : ∀ (b : Nat) (c : Array Value) (e : TypeId) (f : Nat × Nat), e ∈ S → n ≤ b → W.heap[b]? = some (Obj.cells c e f) → W'.heap[b]? = some (Obj.cells c e f)
theorem KeepT.refl (S : List TypeId) (n : Nat) (W : World) : KeepT S n W W := ⟨Nat.le_refl _, fun _ _ _ _ _ _ h => h⟩
theorem KeepT.trans {S : List TypeId} {n : Nat} {A B C : World} (h : KeepT S n A B) (k : KeepT S n B C) : KeepT S n A C := ⟨Nat.le_trans h.size k.size, fun b c e f he hb x => k.same b c e f he hb (h.same b c e f he hb x)⟩
theorem KeepT.of_below {S : List TypeId} {n : Nat} {W W' : World} (h : Below W.heap.size W W') : KeepT S n W W' := ⟨h.size, fun b _ _ _ _ _ hb => (h.block b (Array.getElem?_eq_some_iff.1 hb).1).trans hb⟩
theorem KeepT.alloc {S : List TypeId} {n : Nat} {A W : World} (h : KeepT S n A W) (o : Obj) : KeepT S n A (W.alloc o) := h.trans (.of_below (below1 W o))
theorem KeepT.drew {S : List TypeId} {n : Nat} {A W : World} (h : KeepT S n A W) : KeepT S n A W.drew := h.trans ⟨Nat.le_refl _, fun _ _ _ _ _ _ h => h⟩
theorem KeepT.setCell {S : List TypeId} {n : Nat} {A W : World} (h : KeepT S n A W) {p : Addr} (hp : p.block < n) (u : Value) : KeepT S n A (W.setCell p u) :=
  h.trans ⟨by show W.heap.size ≤ (W.heap.modify _ _).size; rw [Array.size_modify]; exact Nat.le_refl _, fun b _ _ _ _ hb x => (Below.heap_setCell W p u b (by omega)).trans x⟩
theorem KeepT.grown {S : List TypeId} {n : Nat} {A W W' : World} (h : KeepT S n A W) {row : Option Nat} (hg : W.grownBy W' row) (hr : ∀ k, row = some k → ∃ c e f, W.heap[k]? = some (Obj.cells c e f) ∧ e ∉ S) : KeepT S n A W' :=
  h.trans ⟨hg.size, fun b c e f he hb x => (hg.block b (Array.getElem?_eq_some_iff.1 x).1 (fun q => by obtain ⟨c', e', f', h1, h2⟩ := hr b q.symm; rw [x] at h1; injection h1 with h1; injection h1 with _ h3 _; exact h2 (h3 ▸ he))).trans x⟩
theorem KeepT.putObj {S : List TypeId} {n : Nat} (W : World) (l : Nat) (o o' : Obj) (h : W.heap[l]? = some o) (hc : o.isCells = false) : KeepT S n W (W.putObj l o') :=
  ⟨by simp, fun b c e f _ _ x => (World.putObj_heap_other (by rintro rfl; rw [h] at x; cases x; cases hc)).trans x⟩

/-- What a round keeps for an iterator that reads below n₀, and rows of its own of the types S. -/
def KP (S : List TypeId) (n₀ n₁ : Nat) (W W' : World) : Prop := Below n₀ W W' ∧ KeepT S n₁ W W'
theorem KP.refl (S : List TypeId) (n₀ n₁ : Nat) (W : World) : KP S n₀ n₁ W W := ⟨Below.refl _ _, KeepT.refl _ _ _⟩
theorem kp_t {S : List TypeId} {n₀ n₁ : Nat} {A B C : World} (h : KP S n₀ n₁ A B) (k : KP S n₀ n₁ B C) : KP S n₀ n₁ A C := ⟨h.1.trans k.1, h.2.trans k.2⟩
theorem kp_b {S : List TypeId} {n₀ n₁ : Nat} {w : World} (hn : n₀ ≤ w.heap.size) (W : World) (l : Nat) (o o' : Obj) (hl : w.heap.size ≤ l) (h : W.heap[l]? = some o) (h1 : o.isCells = false) (h2 : o.isWalk = false) : KP S n₀ n₁ W (W.putObj l o') :=
  ⟨belowK_b hn W l o o' hl h h1 h2, KeepT.putObj W l o o' h h1⟩
theorem KP.of_below {S : List TypeId} {n₀ n₁ : Nat} {W W' : World} (h : Below W.heap.size W W') (hn : n₀ ≤ W.heap.size) : KP S n₀ n₁ W W' := ⟨h.mono hn, .of_below h⟩
theorem OwnF.keepT {α : Type} {enc : α → List Value} {sz : Nat} {e base n : Nat} {S : List TypeId} {w w' : World} {v : Value} {xs : List α} (h : OwnF enc sz e base w v xs) (k : KeepT S n w w') (he : e ∈ S) (hb : n ≤ base) : OwnF enc sz e base w' v xs := by
  obtain ⟨hl, h | ⟨g, cap, cur, h1, h2, h3, h4⟩⟩ := h
  · exact ⟨hl, .inl h⟩
  · exact ⟨hl, .inr ⟨g, cap, cur, h1, h2, k.same g cur _ _ he (by omega) h3, h4⟩⟩
end Go.Proofs.YtaiibchadlaifaaGreatDoor

namespace Go.Proofs.YtaiibchadlaifaaGreatDoor
open Go.RowKit Go.Shelf
attribute [local go_sem] Oper.semAt_some

def pairsF (qs : List Req) (l : List Att) (i : Nat) : List (Nat × Int) := (l[i]?.map fun a => (eligL qs a).map fun k => (i, k)).getD []
def pairsL (qs : List Req) (l : List Att) : List (Nat × Int) := upTo (pairsF qs l) l.length
theorem pairsF_at {qs : List Req} {l : List Att} {i : Nat} {a : Att} (h : l[i]? = some a) : pairsF qs l i = (eligL qs a).map fun k => (i, k) := by simp [pairsF, h]
theorem upTo_add {β : Type} (f : Nat → List β) (n : Nat) : ∀ m, ∃ r, upTo f (n + m) = upTo f n ++ r
  | 0 => ⟨[], by simp⟩
  | m + 1 => by obtain ⟨r, hr⟩ := upTo_add f n m; exact ⟨r ++ f (n + m), by rw [← Nat.add_assoc, upTo, hr, List.append_assoc]⟩
theorem upTo_get {β : Type} {f : Nat → List β} {i n j : Nat} {x : β} (hi : i < n) (h : (f i)[j]? = some x) : (upTo f n)[(upTo f i).length + j]? = some x := by
  obtain ⟨r, hr⟩ := upTo_add f (i + 1) (n - (i + 1))
  rw [show i + 1 + (n - (i + 1)) = n by omega] at hr
  rw [hr, upTo, List.append_assoc, List.getElem?_append_right (by omega), Nat.add_sub_cancel_left, List.getElem?_append_left (List.getElem?_eq_some_iff.1 h).1]
  exact h
theorem upTo_mono {β : Type} (f : Nat → List β) {i n : Nat} (h : i ≤ n) : (upTo f i).length ≤ (upTo f n).length := by
  obtain ⟨r, hr⟩ := upTo_add f i (n - i)
  rw [show i + (n - i) = n by omega] at hr
  rw [hr, List.length_append]; omega

abbrev pairS : List TypeId := [3, 26]

set_option maxRecDepth 100000 in
set_option maxHeartbeats 4000000 in
theorem pairs_stops (n : Nat) (hn : 2 ≤ n) (Bl Bp n₀ n₁ : Nat) (A Aq : Option Addr) (cl cq : Nat) (l : List Att) (p : Prg) {α : Type} (dec : α → Nat × Int) (ls : List α) (hls : ls.map dec = pairsL p.reqs l) (w : World)
    (hn0 : n₀ ≤ n₁) (hn1 : n₁ ≤ Bp) (hBl : Bl < w.heap.size) (hBp : Bp < w.heap.size) (hq : p.reqs.length ≤ 1000)
    (hcl : w.cell? ⟨Bl, 0, none⟩ = some (.slice A l.length cl)) (hcp : w.heap[Bp]? = some (.cells #[.string p.nm, .int .i64 p.num, .int .i64 p.uses, .int .i64 p.earn, .int .i64 p.mn, .int .i64 p.md, .slice Aq p.reqs.length cq] 26 (0, 0))) (hrl : SRd n₀ kAtt w A l) (hrp : SRd n₀ kReq w Aq p.reqs) :
    SeqStopsK F0 n Tryz.prog 82 #[.pointer (some ⟨Bl, 0, none⟩), .pointer (some ⟨Bp, 0, none⟩)] (fun x : α => #[.int .i64 ((dec x).1 : Int), .int .i64 (dec x).2]) (KP pairS n₀ n₁) (fun ys => ys = ls) (fun pre => ∃ k, k ≤ ls.length ∧ pre = ls.take k) ls.length w := fun L J Jx W hW hJ hJx hY h0 => by
  have hcl' : W.cell? ⟨Bl, 0, none⟩ = some (.slice A l.length cl) := (hW.cell (p := ⟨Bl, 0, none⟩) hBl).trans hcl
  have hcp' := (hW.block Bp hBp).trans hcp
  have hl := hrl.rd.len
  have hn' : 1 ≤ n := by omega
  have hnW : n₁ ≤ W.heap.size := by have := hW.size; omega
  have hrlW := hrl.below (hW.mono (by omega))
  have hrpW := hrp.below (hW.mono (by omega))
  have hBpW : Bp < W.heap.size := by have := hW.size; omega
  clear hW hcl hcp hrl hrp hBl hBp
  have hlen : ls.length = (upTo (pairsF p.reqs l) l.length).length := by rw [← List.length_map dec, hls]; rfl
  refine callsIn_of_wp Tryz.func82 rfl trivial ?_ rfl
  simp only [Tryz.ntmps82, List.size_toArray, List.length_cons, List.length_nil, Nat.reduceAdd, Nat.reduceSub, Array.replicate_succ, Array.replicate_zero, List.push_toArray, List.append_toArray, List.nil_append, List.cons_append]
  gi_wp2
  gi_loopw [4, 5, 7, 10] (fun _ _ _ i wr => ∃ k : Nat, k ≤ l.length ∧ i = .int .i64 k ∧ J (ls.take (upTo (pairsF p.reqs l) k).length) wr ∧ KP pairS n₀ n₁ W wr) (fun _ _ _ i _ => l.length - (intOf i).toNat)
  case atStart => exact ⟨0, Nat.zero_le _, rfl, h0, KP.refl _ _ _ _⟩
  case round =>
    obtain ⟨k, hk, rfl, hJs, hkp⟩ := hrel
    obtain ⟨wo, rfl⟩ : ∃ wo : World, wo = wr := ⟨_, rfl⟩
    have hszo := hkp.2.size
    by_cases hlt : k < l.length
    · obtain ⟨a, b, off, ha, rfl, hb, f0, f1, f2, f3, f4⟩ := kAtt_get (hrlW.below hkp.1).rd hlt
      have hcpo := blk_cell (hkp.2.same Bp _ _ _ (by simp) hn1 hcp')
      have hBpo : Bp < wo.heap.size := by omega
      have hel : ∀ Wx, Below wo.heap.size wo Wx → Calls Tryz.prog 16 #[.agg #[.string p.nm, .int .i64 p.num, .int .i64 p.uses, .int .i64 p.earn, .int .i64 p.mn, .int .i64 p.md, .slice Aq p.reqs.length cq], .agg #[.int .i64 a.c, .int .i64 a.t, .int .i64 a.g, .int .i64 a.cam, .int .i64 a.cr]] Wx
        fun e w' => ∃ v, e = .returned v ∧ OwnF encI 1 3 Wx.heap.size w' v (eligL p.reqs a) ∧ Below Wx.heap.size Wx w' := fun Wx hx => Eligible_c Wx p a Aq cq ((hrpW.below hkp.1).rd.below hx) hq
      have hfk : Hid (upTo (pairsF p.reqs l) (k + 1) = upTo (pairsF p.reqs l) k ++ (eligL p.reqs a).map fun q => (k, q)) := by show _ = _; rw [upTo, pairsF_at ha.out]
      have hfa := pairsF_at (qs := p.reqs) ha.out
      have hmono := upTo_mono (pairsF p.reqs l) (show k + 1 ≤ l.length by omega)
      rw [← hlen, hfk.out, List.length_append, List.length_map] at hmono
      gi_wp2_with (refine ⟨trivial, ?_⟩; gi_at_call 16; refine (callsIn_wide.2 (hel _ (below1 _ _))).mono ?_; rintro e w1 ⟨v, rfl, hown, hb1⟩; obtain ⟨B, cB, rfl, hcB, hrB⟩ := hown.rd encI_len)
      have hBw := bthen (below1 _ _) hb1
      have hJ1 := hJ _ _ _ none hJs (grown_of_below hBw none) (fun r e => by cases e)
      have hkp1 : KP pairS n₀ n₁ W w1 := kp_t hkp (KP.of_below hBw (by omega))
      have hlB := hrB.len
      clear hJs hkp hb1 hel hcpo f0 f1 f2 f3 f4 hBw hrB hb
      have hsz1 := hkp1.2.size
      obtain ⟨m, hm⟩ : ∃ m, (eligL p.reqs a).length = m := ⟨_, rfl⟩
      rw [hm] at hlB hmono ⊢
      gi_loopw [7, 19] (fun _ t wr => ∃ j : Nat, j ≤ m ∧ t = .int .i64 j ∧ J (ls.take ((upTo (pairsF p.reqs l) k).length + j)) wr ∧ KP pairS n₀ n₁ w1 wr) (fun _ t _ => m - (intOf t).toNat)
      case atStart => exact ⟨0, Nat.zero_le _, rfl, hJ1, KP.refl _ _ _ _⟩
      case round =>
        obtain ⟨j, hj, rfl, hJr, hkr⟩ := hrel
        by_cases hjm : j < m
        · have hrB : Rd kI wr B (eligL p.reqs a) := by
            obtain ⟨B', c', e, _, h⟩ := (OwnF.keepT hown hkr.2 (by simp) (by simp; omega)).rd encI_len
            injection e with e1 _ _; rw [e1]; exact h
          obtain ⟨q, bq, oq, hq1, rfl, hbq, fq⟩ := kI_get hrB (k := j) (by omega)
          have hget : (ls.map dec)[(upTo (pairsF p.reqs l) k).length + j]? = some (k, q) := by
            rw [hls]; exact upTo_get hlt (by rw [hfa, List.getElem?_map, hq1.out]; rfl)
          rw [List.getElem?_map] at hget
          obtain ⟨x, hx, hdx⟩ : ∃ x, ls[(upTo (pairsF p.reqs l) k).length + j]? = some x ∧ dec x = (k, q) := by
            cases hlx : ls[(upTo (pairsF p.reqs l) k).length + j]? with
            | none => rw [hlx] at hget; cases hget
            | some x => rw [hlx] at hget; exact ⟨x, rfl, Option.some.inj hget⟩
          have hts : Hid (ls.take ((upTo (pairsF p.reqs l) k).length + (j + 1)) = ls.take ((upTo (pairsF p.reqs l) k).length + j) ++ [x]) := take_snoc_get hx
          have hxl := (List.getElem?_eq_some_iff.1 hx).1
          obtain ⟨fn, tmps, assign, body, hy, hR⟩ := hY _ x _ hJr (by rw [List.length_take]; omega)
          try dsimp only at hy
          rw [hdx] at hy
          try dsimp only at hy
          have HL : Hid (ls.length = _) := hlen
          clear hlen hm hdx hx hget hq1 hrB hfa hown hls hY
          gi_wp2
          refine hR.mono ?_
          rintro e W3 (⟨rfl, hJ3, hk3⟩ | ⟨rfl, hJx3⟩)
          · gi_wp2
            go_roundw
            case rel => exact ⟨j + 1, hjm, by go_num, by rw [hts.out]; exact hJ3, kp_t hkr hk3⟩
            case measure => simp [intOf]; omega
          · gi_wp2
            refine bodyPost_ret (results_none rfl _ _ _) rfl ?_
            exact ⟨⟨_, rfl⟩, .inr ⟨_, ⟨(upTo (pairsF p.reqs l) k).length + (j + 1), by omega, hts.out.symm⟩, hJx3⟩⟩
        · obtain rfl : j = m := by omega
          have hJe : J (ls.take (upTo (pairsF p.reqs l) (k + 1)).length) wr := by rw [hfk.out, List.length_append, List.length_map, hm]; exact hJr
          clear hJr hm
          gi_wp2
          go_roundw
          case rel => exact ⟨k + 1, hlt, by go_num, hJe, kp_t hkp1 hkr⟩
          case measure => simp [intOf]; omega
    · obtain rfl : k = l.length := by omega
      rw [← hlen, List.take_length] at hJs
      gi_wp2
      go_end0
      exact ⟨⟨_, rfl⟩, .inl ⟨_, rfl, hJs⟩⟩
end Go.Proofs.YtaiibchadlaifaaGreatDoor

namespace Go.Proofs.YtaiibchadlaifaaGreatDoor
open Go.RowKit Go.Shelf
attribute [local go_sem] Oper.semAt_some

def netE (p : Prg) (l : List Att) : Int := if prgE p = 0 then attsE l else 190
def edgeA (u : Int) (l : List Att) (i : Nat) : List Edge := (l[i]?.map fun a => [⟨0, 1 + i, a.cr * u⟩]).getD []
def edgeP (l : List Att) (x : Nat × Int) : Edge := ⟨1 + x.1, 1 + l.length + x.2, ((l[x.1]?).map fun a => a.cr).getD 0⟩
def edgeR (m : Nat) (qs : List Req) (k : Nat) : List Edge := (qs[k]?.map fun q => [⟨1 + m + k, 1 + m + qs.length, q.cr⟩]).getD []
def netL (p : Prg) (l : List Att) : List Edge := upTo (edgeA p.uses l) l.length ++ (pairsL p.reqs l).map (edgeP l) ++ upTo (edgeR l.length p.reqs) p.reqs.length
theorem edgeA_at {u : Int} {l : List Att} {i : Nat} {a : Att} (h : l[i]? = some a) : edgeA u l i = [⟨0, 1 + i, a.cr * u⟩] := by simp [edgeA, h]
theorem edgeR_at {m : Nat} {qs : List Req} {k : Nat} {q : Req} (h : qs[k]? = some q) : edgeR m qs k = [⟨1 + m + k, 1 + m + qs.length, q.cr⟩] := by simp [edgeR, h]
theorem edge_len (x : Edge) : x.enc.length = 3 := rfl
theorem edge_one (x : Edge) : ∀ u ∈ x.enc, u.oneCell' = true := by
  intro u hu
  simp only [Edge.enc, List.mem_cons, List.not_mem_nil, or_false] at hu
  rcases hu with rfl | rfl | rfl <;> rfl
theorem edge_info : (Tryz.prog.info? 85).map (fun i => (i.zero, i.size, i.bytes)) = some (some (.agg #[.int .i64 0, .int .i64 0, .int .i64 0]), 3, 24) := by kernel_rfl
theorem pairsL_mem {qs : List Req} {l : List Att} {x : Nat × Int} (h : x ∈ pairsL qs l) : x.1 < l.length ∧ 0 ≤ x.2 ∧ x.2 < qs.length := by
  unfold pairsL at h
  have key : ∀ n, n ≤ l.length → ∀ x, x ∈ upTo (pairsF qs l) n → x.1 < l.length ∧ 0 ≤ x.2 ∧ x.2 < qs.length := by
    intro n
    induction n with
    | zero => intro _ x hx; cases hx
    | succ n ih =>
      intro hn x hx
      rw [upTo, List.mem_append] at hx
      rcases hx with hx | hx
      · exact ih (by omega) x hx
      · unfold pairsF at hx
        cases hl : l[n]? with
        | none => rw [hl] at hx; cases hx
        | some a =>
          rw [hl] at hx
          simp only [Option.map_some, Option.getD_some, List.mem_map] at hx
          obtain ⟨k, hk, rfl⟩ := hx
          refine ⟨by simp; omega, ?_⟩
          have key2 : ∀ m, m ≤ qs.length → ∀ k, k ∈ upTo (eligF qs a) m → 0 ≤ k ∧ k < qs.length := by
            intro m
            induction m with
            | zero => intro _ k hk; cases hk
            | succ m ih2 =>
              intro hm k hk
              rw [upTo, List.mem_append] at hk
              rcases hk with hk | hk
              · exact ih2 (by omega) k hk
              · unfold eligF at hk
                split at hk
                · rw [List.mem_singleton.1 hk]; omega
                · cases hk
          exact key2 _ (Nat.le_refl _) k hk
  exact key _ (Nat.le_refl _) x h

set_option maxHeartbeats 1000000 in
theorem pairs_c (p : Prg) (A Aq : Option Addr) (n c cq : Nat) (w : World) :
    Calls Tryz.prog 43 #[.agg #[.string p.nm, .int .i64 p.num, .int .i64 p.uses, .int .i64 p.earn, .int .i64 p.mn, .int .i64 p.md, .slice Aq p.reqs.length cq], .slice A n c] w fun e w' => e = .returned (.func (.func 82) #[] #[.pointer (some ⟨w.heap.size + 1, 0, none⟩), .pointer (some ⟨w.heap.size, 0, none⟩)]) ∧ w' = (w.alloc (.cells #[.string p.nm, .int .i64 p.num, .int .i64 p.uses, .int .i64 p.earn, .int .i64 p.mn, .int .i64 p.md, .slice Aq p.reqs.length cq] 26)).alloc (.cells #[.slice A n c] 37) := by
  go_enter Tryz.func43, Tryz.ntmps43
  go_wp2
  go_ret
  exact ⟨rfl, rfl⟩

set_option maxRecDepth 100000 in
set_option maxHeartbeats 8000000 in
theorem degree_Network_bad (w : World) (p : Prg) (l : List Att) (A Aq : Option Addr) (c cq : Nat) (hl : Rd kAtt w A l) (hq : Rd kReq w Aq p.reqs) (hm : l.length ≤ 100000) (hE : netE p l ≠ 0) :
    Calls Tryz.prog 18 #[.agg #[.string p.nm, .int .i64 p.num, .int .i64 p.uses, .int .i64 p.earn, .int .i64 p.mn, .int .i64 p.md, .slice Aq p.reqs.length cq], .slice A l.length c] w fun e w' => e = .returned (.tuple #[.int .i64 0, .slice none 0 0, .int .i64 (netE p l)]) ∧ Below w.heap.size w w' := by
  have hck := fun W (hW : Below w.heap.size w W) => degree_Check_c W p Aq cq (hq.below hW)
  have hsm := fun W (hW : Below w.heap.size w W) => average_Sums_c W A c l (hl.below hW) (by omega)
  obtain ⟨pnm, pnum, puses, pearn, pmn, pmd, qs⟩ := p
  dsimp only at *
  by_cases hp : prgE ⟨pnm, pnum, puses, pearn, pmn, pmd, qs⟩ = 0
  · cases ha : l.all attOk with
    | true => exact absurd (by simp [netE, hp, attsE, ha]) hE
    | false =>
      have hN : netE ⟨pnm, pnum, puses, pearn, pmn, pmd, qs⟩ l = 150 := by simp [netE, hp, attsE, ha]
      rw [hp] at hck
      rw [ha] at hsm
      rw [hN]
      clear hE hN ha hp
      go_enter Tryz.func18, Tryz.ntmps18
      go_wp2_with fail
      refine (hck _ (below3 _ _ _ _)).mono ?_
      rintro e w1 ⟨rfl, hb1⟩
      have hc1 : w1.cell? ⟨w.heap.size + 1, 0, none⟩ = some (.slice A l.length c) := ((bcell hb1).1 _ _ (by rw [alloc3_size]; omega)).trans (by rw [blk_cell (alloc3_blk1 w _ _ _)]; rfl)
      have hc2 : w1.cell? ⟨w.heap.size + 1 + 1, 0, none⟩ = some (.slice none 0 0) := ((bcell hb1).1 _ _ (by rw [alloc3_size]; omega)).trans (by rw [blk_cell (alloc3_blk2 w _ _ _)]; rfl)
      have hf2 : w1.frozen? ⟨w.heap.size + 1 + 1, 0, none⟩ = false := ((bcell hb1).2 _ _ (by rw [alloc3_size]; omega)).trans (by rw [blk_frozen (alloc3_blk2 w _ _ _)])
      have hBw := bthen (below3 w _ _ _) hb1
      have hz1 : w.heap.size + 1 + 1 < w1.heap.size := by have := hb1.size; simp at this; omega
      clear hb1
      go_wp2_with fail
      refine (hsm _ hBw).mono ?_
      rintro e w2 ⟨rfl, hb2⟩
      have hc2 : w2.cell? ⟨w.heap.size + 1 + 1, 0, none⟩ = some (.slice none 0 0) := ((bcell hb2).1 _ _ hz1).trans hc2
      have hf2 : w2.frozen? ⟨w.heap.size + 1 + 1, 0, none⟩ = false := ((bcell hb2).2 _ _ hz1).trans hf2
      have hBw2 := bthen hBw hb2
      go_wp2_with fail
      exact bodyPost_ret (v := .tuple #[.int .i64 0, .slice none 0 0, .int .i64 150]) (by simp [results, Tryz.results18, go_sem, hc2]) rfl ⟨rfl, hBw2.setCell (p := ⟨w.heap.size + 1 + 1, 0, none⟩) (by simp; omega) _⟩
  · have hp2 : prgE ⟨pnm, pnum, puses, pearn, pmn, pmd, qs⟩ = 190 := by unfold prgE at hp ⊢; split <;> simp_all
    have hN : netE ⟨pnm, pnum, puses, pearn, pmn, pmd, qs⟩ l = 190 := by simp [netE, hp]
    rw [hp2] at hck
    rw [hN]
    clear hE hN hp hp2 hsm
    go_enter Tryz.func18, Tryz.ntmps18
    go_wp2_with fail
    refine (hck _ (below3 _ _ _ _)).mono ?_
    rintro e w1 ⟨rfl, hb1⟩
    have hc2 : w1.cell? ⟨w.heap.size + 1 + 1, 0, none⟩ = some (.slice none 0 0) := ((bcell hb1).1 _ _ (by rw [alloc3_size]; omega)).trans (by rw [blk_cell (alloc3_blk2 w _ _ _)]; rfl)
    have hf2 : w1.frozen? ⟨w.heap.size + 1 + 1, 0, none⟩ = false := ((bcell hb1).2 _ _ (by rw [alloc3_size]; omega)).trans (by rw [blk_frozen (alloc3_blk2 w _ _ _)])
    have hBw := bthen (below3 w _ _ _) hb1
    go_wp2_with fail
    exact bodyPost_ret (v := .tuple #[.int .i64 0, .slice none 0 0, .int .i64 190]) (by simp [results, Tryz.results18, go_sem, hc2]) rfl ⟨rfl, hBw.setCell (p := ⟨w.heap.size + 1 + 1, 0, none⟩) (by simp; omega) _⟩
end Go.Proofs.YtaiibchadlaifaaGreatDoor

namespace Go.Proofs.YtaiibchadlaifaaGreatDoor
open Go.RowKit Go.Shelf

section
variable {P : Program} {ops : Array Oper} {md : Region.Mode} {S : World → Prop} {Q : Exit → Act → World → Prop}

def wpAnyG (P : Program) (md : Region.Mode) (ops : Array Oper) (Q : Exit → Act → World → Prop) (S : World → Prop) (n : Nat) (L : Array Bool → Act → World → Prop) : Nat → Array Bool → Act → World → Prop
  | 0, listed, a, w => L listed a w
  | f + 1, listed, a, w =>
    Region.ready md ops listed ≠ [] ∧ ∀ i ∈ Region.ready md ops listed, i < n ∧ wpOp P ops Q i (fun a' w' => S w' ∧ wpAnyG P md ops Q S n L f (listed.setIfInBounds i true) a' w') a w

theorem wpAny_of_headG {n g : Nat} {L : Array Bool → Act → World → Prop} (hL : ∀ listed a w, L listed a w → wpAny P md ops Q g listed a w) :
    ∀ (f : Nat) (listed : Array Bool) (a : Act) (w : World), wpAnyG P md ops Q S n L f listed a w → wpAny P md ops Q (f + g) listed a w
  | 0, listed, a, w, h => by rw [Nat.zero_add]; exact hL _ _ _ h
  | f + 1, listed, a, w, h => by
    rw [show f + 1 + g = (f + g) + 1 by omega]
    exact ⟨fun h0 => absurd h0 h.1, fun i hi => wpOp_mono (fun a' w' h' => wpAny_of_headG hL f _ a' w' h'.2) (h.2 i hi).2⟩

theorem wpAnyG_first {n i : Nat} {oi : Oper} {v : Value} {L : Array Bool → Act → World → Prop} (hi : ops[i]? = some oi) (hsel : ∀ (j : Nat) (o : Oper) cs b, ops[j]? = some o → o.op ≠ .select cs b)
    (hQ : ∀ c a w, Q (.panic c) (a.put oi.dst v) w → Q (.panic c) a w)
    (hs : Region.sinkB md ops n = true) (hc : Region.chainB md ops n = true) (hn : n < ops.size) (hin : i < n)
    (hdone : ∀ listed a w, L listed a w → ∀ j ∈ Region.ready md ops listed, n ≤ j) :
    ∀ (f : Nat) (listed : Array Bool) (a : Act) (w : World), HeadInv md ops n listed →
      (∀ j oj, ops[j]? = some oj → j ≠ i → listed.getD j true = false → (∀ e ∈ oj.after, Region.binds md e = true → e.on ≠ i) → oi.apart ops oj = true) →
      i ∈ Region.ready md ops listed → YieldsIf P ops S oi v a → S w →
      wpAnyG P md ops Q S n L f (listed.setIfInBounds i true) (a.put oi.dst v) w → wpAnyG P md ops Q S n L (f + 1) listed a w := by
  intro f
  induction f with
  | zero =>
    intro listed a w inv _ hr hy hS H
    have hun := (mem_ready.1 hr).1
    refine ⟨fun h => (by rw [h] at hr; cases hr), fun j hj => ?_⟩
    have hjn : j < n := by
      rcases Nat.lt_or_ge j n with h | h
      · exact h
      · exact absurd hj (tail_waits hs hc hn inv _ i rfl hin hun j h)
    refine ⟨hjn, ?_⟩
    by_cases hji : j = i
    · subst hji; exact hy.wpOp hi hS ⟨hS, H⟩
    · have := hdone _ _ _ H j (ready_mono hj hji)
      omega
  | succ f ih =>
    intro listed a w inv hfree hr hy hS H
    have hun := (mem_ready.1 hr).1
    refine ⟨fun h => (by rw [h] at hr; cases hr), fun j hj => ?_⟩
    have hjn : j < n := by
      rcases Nat.lt_or_ge j n with h | h
      · exact h
      · exact absurd hj (tail_waits hs hc hn inv _ i rfl hin hun j h)
    refine ⟨hjn, ?_⟩
    by_cases hji : j = i
    · subst hji; exact hy.wpOp hi hS ⟨hS, H⟩
    · have h1 := (H.2 j (ready_mono hj hji)).2
      obtain ⟨hjun, oj, hoj, hall⟩ := mem_ready.1 hj
      have hnot : ∀ e ∈ oj.after, Region.binds md e = true → e.on ≠ i := fun e he hb heq => by
        have h1 := hall e he hb
        rw [heq, getD_both hun] at h1
        cases h1
      have h2 := wpOp_putIf hoj (hfree j oj hoj hji hjun hnot) (fun cs b => hsel i oi cs b hi) (fun cs b => hsel j oj cs b hoj) hQ hy h1
      have hfree' : ∀ k ok, ops[k]? = some ok → k ≠ i → (listed.setIfInBounds j true).getD k true = false →
          (∀ e ∈ ok.after, Region.binds md e = true → e.on ≠ i) → oi.apart ops ok = true := fun k ok hk hki hun hno => by
        refine hfree k ok hk hki ?_ hno
        by_cases hjk : j = k
        · subst hjk; exact hjun
        · rw [getD_set_ne true hjk] at hun; exact hun
      refine wpOp_mono (fun a' w' h3 => ⟨h3.2.1, ih (listed.setIfInBounds j true) a' w' (inv.set hj hjn) hfree' (ready_mono hr (Ne.symm hji)) h3.1 h3.2.1 ?_⟩) h2
      rw [Array.setIfInBounds_comm _ _ hji]
      exact h3.2.2

/-- Reads, one after the other: each the same in every world that meets S. -/
def heldHead (P : Program) (ops : Array Oper) (S : World → Prop) (K : Act → Prop) : List Oper → Act → Prop
  | [], a => K a
  | o :: l, a => ∃ v, YieldsIf P ops S o v a ∧ heldHead P ops S K l (a.put o.dst v)

theorem held_cons {K : Act → Prop} {o : Oper} {l : List Oper} {a : Act} {v : Value} (hw : Region.wanted o (yielded ops a.tmps) = true) (hy : ∀ w, S w → (execOp a.eval o).run P w = .ok (.value v) w) (h : heldHead P ops S K l (a.put o.dst v)) : heldHead P ops S K (o :: l) a := ⟨v, .inl ⟨hw, hy⟩, h⟩
theorem held_nil {K : Act → Prop} {a : Act} (h : K a) : heldHead P ops S K [] a := h

theorem held_last {l : List Oper} {n : Nat} {w w' : World} {o : Oper} {a : Act} {v : Value} {L : Act → World → Prop} (ho : l[n]? = some o) (hw : Region.wanted o (yielded ops a.tmps) = true) (hrun : (execOp a.eval o).run P w = .ok (.value v) w') (hS : S w') (h : L (a.put o.dst v) w') :
    heldHead P ops S (fun a' => ∃ on v w', l[n]? = some on ∧ Region.wanted on (yielded ops a'.tmps) = true ∧ (execOp a'.eval on).run P w = .ok (.value v) w' ∧ S w' ∧ L (a'.put on.dst v) w') [] a := ⟨o, v, w', ho, hw, hrun, hS, h⟩

theorem wpAnyG_lex {n g : Nat} {w : World} {Lq : Act → World → Prop} (hsel : Region.noSelect ops = true) (hs : Region.sinkB md ops (n + 1) = true) (hc : Region.chainB md ops (n + 1) = true) (hn : n + 1 < ops.size)
    (hQ : ∀ d v c a w, Q (.panic c) (Act.put a d v) w → Q (.panic c) a w) (hS : S w) :
    ∀ (l : List Oper) (k : Nat) (listed : Array Bool) (a : Act), (∀ j, j < l.length → l[j]? = ops[k + j]?) → k + l.length = n → HeadInv md ops (n + 1) listed →
    Region.lexHead md ops g (l.length + 1) k listed = true →
    heldHead P ops S (fun a' => ∃ on v w', ops[n]? = some on ∧ Region.wanted on (yielded ops a'.tmps) = true ∧ (execOp a'.eval on).run P w = .ok (.value v) w' ∧ S w' ∧ Lq (a'.put on.dst v) w') l a →
    (∀ listed, HeadInv md ops (n + 1) listed → n ∈ Region.ready md ops listed → Region.seqB md ops g (n + 1) (listed.setIfInBounds n true) = true → ∀ j ∈ Region.ready md ops listed, j = n) →
    wpAnyG P md ops Q S (n + 1) (fun listed' a' w' => Region.seqB md ops g (n + 1) listed' = true ∧ Lq a' w') (l.length + 1) listed a w
  | [], k, listed, a, _, hk, inv, hB, h, hone => by
    have : k = n := by simpa using hk
    subst this
    simp only [List.length_nil, Region.lexHead, Bool.and_eq_true] at hB
    obtain ⟨⟨hr, hf⟩, hB'⟩ := hB
    have hr' : k ∈ Region.ready md ops listed := by simpa using hr
    obtain ⟨on, v, w', ho, hw, hrun, hS', hL⟩ := h
    refine ⟨fun h => (by rw [h] at hr'; cases hr'), fun j hj => ?_⟩
    obtain rfl := hone listed inv hr' hB' j hj
    refine ⟨Nat.lt_succ_self _, ?_⟩
    unfold wpOp
    simp only [ho, hw, if_true, Oper.wp, hrun, Oper.upon]
    exact .inl ⟨hS', hB', hL⟩
  | o :: l, k, listed, a, hl, hk, inv, hB, h, hone => by
    have h0 : ops[k]? = some o := by simpa using (hl 0 (by simp)).symm
    simp only [List.length_cons, Region.lexHead, Bool.and_eq_true] at hB
    obtain ⟨⟨hr, hf⟩, hB'⟩ := hB
    have hkn : k < n + 1 := by simp only [List.length_cons] at hk; omega
    have hr' : k ∈ Region.ready md ops listed := by simpa using hr
    obtain ⟨v, hy, hK⟩ := h
    exact wpAnyG_first h0 (Region.noSelect_spec hsel) (fun c a w => hQ o.dst v c a w) hs hc hn hkn (fun listed' a' w' hL => seqB_ready hL.1) (l.length + 1) listed a w inv (Region.free_spec h0 hf) hr' hy hS
      (wpAnyG_lex hsel hs hc hn hQ hS l (k + 1) _ _ (fun j hj => by have := hl (j + 1) (by simp; omega); simpa [Nat.add_assoc, Nat.add_comm 1 j] using this) (by simp only [List.length_cons] at hk; omega) (inv.set hr' hkn) (by simp only [Region.lexHead, Bool.and_eq_true]; exact hB') hK hone)

theorem wpIn_held_tail {ro : Option Nat} {m : Nat} {P : Program} {id : Nat} {Q : Exit → Act → World → Prop} {a : Act} {w : World} {l : List Oper} (n : Nat) (S : World → Prop) (hQ : ¬ LetsOut Q) (hQp : ∀ d v c a w, Q (.panic c) (Act.put a d v) w → Q (.panic c) a w) (hm : P.follows .mixedOrders = true) (hB : Region.lexTailB .any l.toArray (n + 1) = true) (hd : noDefer l.toArray = true)
    (hS : S w.drew)
    (h : heldHead P l.toArray S (fun a' => ∃ on v w', l[n]? = some on ∧ Region.wanted on (yielded l.toArray a'.tmps) = true ∧ (execOp a'.eval on).run P w.drew = .ok (.value v) w' ∧ S w' ∧ wpList P l.toArray Q (l.drop (n + 1)) (a'.put on.dst v) w') (l.take n) a) : (Code.region id l.toArray true).wpIn (FR ro) m P Q a w := by
  simp only [Region.lexTailB, Bool.and_eq_true, decide_eq_true_eq] at hB
  obtain ⟨⟨⟨⟨hsel, hn⟩, hs⟩, hc⟩, hlex⟩ := hB
  have hn' : n + 1 < l.length := by simpa using hn
  have htl : (l.take n).length = n := by simp; omega
  have hdl : (l.drop (n + 1)).length = l.toArray.size - (n + 1) := by simp
  have inv0 : HeadInv .any l.toArray (n + 1) (Array.replicate l.toArray.size false) :=
    ⟨by simp, fun j oj _ hl => (by rw [getD_replicate_false] at hl; cases hl), fun t _ ht => getD_in (by simpa using ht) (getD_replicate_false _ _)⟩
  have hone : ∀ listed, HeadInv .any l.toArray (n + 1) listed → n ∈ Region.ready .any l.toArray listed → Region.seqB .any l.toArray (l.toArray.size - (n + 1)) (n + 1) (listed.setIfInBounds n true) = true → ∀ j ∈ Region.ready .any l.toArray listed, j = n := by
    intro listed inv hr hsq j hj
    by_cases hjn : j = n
    · exact hjn
    · have h1 := seqB_ready hsq j (ready_mono hj hjn)
      exact absurd hj (tail_waits hs hc hn inv _ n rfl (Nat.lt_succ_self _) (mem_ready.1 hr).1 j h1)
  have H := wpAnyG_lex (md := .any) (g := l.toArray.size - (n + 1)) (Q := Q) (Lq := fun a' w' => wpList P l.toArray Q (l.drop (n + 1)) a' w') hsel hs hc hn hQp hS (l.take n) 0 _ a (fun j hj => by
    have hj' : j < n := by rw [htl] at hj; exact hj
    simp [hj']) (by simpa using htl) inv0 (by rw [htl]; exact hlex) (by simpa using h) hone
  refine wpIn_region_any hm (wpAnyIn_of hQ hd _ _ _ _ ?_)
  have := wpAny_of_headG (Q := Q) (g := l.toArray.size - (n + 1)) (fun listed a' w' hL => by
    have := wpAny_of_seq (md := .any) (Q' := Q) (l.drop (n + 1)) (n + 1) listed a' w' (fun j => by simp [List.getElem?_drop]) (by rw [hdl]; exact hL.1) hL.2
    rwa [hdl] at this) _ _ _ _ H
  rw [htl, show n + 1 + (l.toArray.size - (n + 1)) = l.toArray.size by omega] at this
  exact this
/-- The same, outside a fence. -/
theorem wp_held_tail {P : Program} {id : Nat} {Q : Exit → Act → World → Prop} {a : Act} {w : World} {l : List Oper} (n : Nat) (S : World → Prop) (hQp : ∀ d v c a w, Q (.panic c) (Act.put a d v) w → Q (.panic c) a w) (hm : P.follows .mixedOrders = true) (hB : Region.lexTailB .any l.toArray (n + 1) = true)
    (hS : S w.drew)
    (h : heldHead P l.toArray S (fun a' => ∃ on v w', l[n]? = some on ∧ Region.wanted on (yielded l.toArray a'.tmps) = true ∧ (execOp a'.eval on).run P w.drew = .ok (.value v) w' ∧ S w' ∧ wpList P l.toArray Q (l.drop (n + 1)) (a'.put on.dst v) w') (l.take n) a) : (Code.region id l.toArray true).wp P Q a w := by
  simp only [Region.lexTailB, Bool.and_eq_true, decide_eq_true_eq] at hB
  obtain ⟨⟨⟨⟨hsel, hn⟩, hs⟩, hc⟩, hlex⟩ := hB
  have hn' : n + 1 < l.length := by simpa using hn
  have htl : (l.take n).length = n := by simp; omega
  have hdl : (l.drop (n + 1)).length = l.toArray.size - (n + 1) := by simp
  have inv0 : HeadInv .any l.toArray (n + 1) (Array.replicate l.toArray.size false) :=
    ⟨by simp, fun j oj _ hl => (by rw [getD_replicate_false] at hl; cases hl), fun t _ ht => getD_in (by simpa using ht) (getD_replicate_false _ _)⟩
  have hone : ∀ listed, HeadInv .any l.toArray (n + 1) listed → n ∈ Region.ready .any l.toArray listed → Region.seqB .any l.toArray (l.toArray.size - (n + 1)) (n + 1) (listed.setIfInBounds n true) = true → ∀ j ∈ Region.ready .any l.toArray listed, j = n := by
    intro listed inv hr hsq j hj
    by_cases hjn : j = n
    · exact hjn
    · have h1 := seqB_ready hsq j (ready_mono hj hjn)
      exact absurd hj (tail_waits hs hc hn inv _ n rfl (Nat.lt_succ_self _) (mem_ready.1 hr).1 j h1)
  have H := wpAnyG_lex (md := .any) (g := l.toArray.size - (n + 1)) (Q := Q) (Lq := fun a' w' => wpList P l.toArray Q (l.drop (n + 1)) a' w') hsel hs hc hn hQp hS (l.take n) 0 _ a (fun j hj => by
    have hj' : j < n := by rw [htl] at hj; exact hj
    simp [hj']) (by simpa using htl) inv0 (by rw [htl]; exact hlex) (by simpa using h) hone
  refine wp_region_any hm ?_
  have := wpAny_of_headG (Q := Q) (g := l.toArray.size - (n + 1)) (fun listed a' w' hL => by
    have := wpAny_of_seq (md := .any) (Q' := Q) (l.drop (n + 1)) (n + 1) listed a' w' (fun j => by simp [List.getElem?_drop]) (by rw [hdl]; exact hL.1) hL.2
    rwa [hdl] at this) _ _ _ _ H
  rw [htl, show n + 1 + (l.toArray.size - (n + 1)) = l.toArray.size by omega] at this
  exact this
end
end Go.Proofs.YtaiibchadlaifaaGreatDoor

namespace Go.Proofs.YtaiibchadlaifaaGreatDoor
open Go.RowKit Go.Shelf
attribute [local go_sem] Oper.semAt_some

/-- A walk stands still at a goal of this form: `(guard; refine stopHere ?_)`, and goes on behind `unfold Stopped`. -/
@[irreducible] def Stopped (p : Prop) : Prop := p
theorem stopHere {p : Prop} (h : Stopped p) : p := by unfold Stopped at h; exact h

/-- An own row of cells stays where blocks of book-keeping alone are turned. -/
theorem OwnF.book {α : Type} {enc : α → List Value} {sz : Nat} {e base : Nat} {w w' : World} {v : Value} {xs : List α} {row : Option Nat} (h : OwnF enc sz e base w v xs) (hg : w.grownBy w' row) (hr : ∀ r, row = some r → ∃ o : Obj, w.heap[r]? = some o ∧ o.isCells = false) : OwnF enc sz e base w' v xs :=
  h.kept fun b cur f _ hb => (hg.block b (Array.getElem?_eq_some_iff.1 hb).1 (fun q => by obtain ⟨o, ho, hc⟩ := hr b q.symm; rw [hb] at ho; cases ho; cases hc)).trans hb
/-- A row of the call's own that grew: all else than cells stays. -/
theorem KeepsOthers.grown {α : Type} {enc : α → List Value} {sz : Nat} {e base : Nat} {w w' : World} {v : Value} {xs : List α} (h : OwnF enc sz e base w v xs) (hg : w.grownBy w' v.ownBlock) : KeepsOthers w w' :=
  ⟨hg.size, fun k o hk ho => (hg.block k (Array.getElem?_eq_some_iff.1 hk).1 (fun q => by obtain ⟨_, cur, f, h1⟩ := h.row k q.symm; rw [hk] at h1; cases h1; cases ho)).trans hk⟩
theorem KeepT.grownF {α : Type} {enc : α → List Value} {sz : Nat} {e base n : Nat} {S : List TypeId} {w w' : World} {v : Value} {xs : List α} (h : OwnF enc sz e base w v xs) (hg : w.grownBy w' v.ownBlock) (he : e ∉ S) : KeepT S n w w' :=
  (KeepT.refl S n w).grown hg fun k q => by obtain ⟨_, cur, f, h1⟩ := h.row k q; exact ⟨cur, e, f, h1, he⟩

theorem inB_bd {n a b : Int} (h : inB n a b = true) : a ≤ n ∧ n ≤ b := by simpa [inB] using h
theorem prg_ok {p : Prg} (h : prgE p = 0) : 1 ≤ p.uses ∧ p.uses ≤ 4 ∧ p.reqs.length ≤ 64 ∧ ∀ q, q ∈ p.reqs → 1 ≤ q.cr ∧ q.cr ≤ 10000 := by
  unfold prgE at h
  split at h
  · rename_i h1
    rw [Bool.and_eq_true] at h1
    obtain ⟨h1, h2⟩ := h1
    unfold prgHead at h1
    simp only [Bool.and_eq_true, decide_eq_true_eq] at h1
    obtain ⟨⟨⟨⟨⟨_, hu⟩, _⟩, _⟩, _⟩, hn⟩ := h1
    have := inB_bd hu
    refine ⟨this.1, this.2, hn, fun q hq => ?_⟩
    have := List.all_eq_true.1 h2 q hq
    unfold reqOk at this
    simp only [Bool.and_eq_true] at this
    exact inB_bd this.1.1
  · cases h
theorem netE_ok {p : Prg} {l : List Att} (h : netE p l = 0) : prgE p = 0 ∧ l.all attOk = true := by
  unfold netE at h
  split at h
  · rename_i h1; refine ⟨h1, ?_⟩; unfold attsE at h; split at h
    · assumption
    · cases h
  · cases h
theorem upTo_len1 {β : Type} {f : Nat → List β} (h : ∀ k, (f k).length ≤ 1) (n : Nat) : (upTo f n).length ≤ n := upTo_le h n
theorem edgeA_le (u : Int) (l : List Att) (k : Nat) : (edgeA u l k).length ≤ 1 := by unfold edgeA; cases l[k]? <;> simp
theorem edgeR_le (m : Nat) (qs : List Req) (k : Nat) : (edgeR m qs k).length ≤ 1 := by unfold edgeR; cases qs[k]? <;> simp
theorem eligL_le (qs : List Req) (a : Att) : (eligL qs a).length ≤ qs.length := eligTo_le qs a _
theorem pairsL_le (qs : List Req) (l : List Att) : (pairsL qs l).length ≤ l.length * qs.length := by
  unfold pairsL
  have key : ∀ n, (upTo (pairsF qs l) n).length ≤ n * qs.length := by
    intro n
    induction n with
    | zero => simp [upTo]
    | succ n ih =>
      rw [upTo, List.length_append, Nat.succ_mul]
      have : (pairsF qs l n).length ≤ qs.length := by
        unfold pairsF
        cases l[n]? with
        | none => simp
        | some a => simp only [Option.map_some, Option.getD_some, List.length_map]; exact eligL_le qs a
      omega
  exact key _

set_option maxRecDepth 100000 in
set_option maxHeartbeats 16000000 in
theorem degree_Network_good (w : World) (p : Prg) (l : List Att) (A Aq : Option Addr) (c cq : Nat) (hl : Rd kAtt w A l) (hq : Rd kReq w Aq p.reqs) (hm : l.length ≤ 100000) (hE : netE p l = 0) :
    Calls Tryz.prog 18 #[.agg #[.string p.nm, .int .i64 p.num, .int .i64 p.uses, .int .i64 p.earn, .int .i64 p.mn, .int .i64 p.md, .slice Aq p.reqs.length cq], .slice A l.length c] w fun e w' => ∃ v, e = .returned (.tuple #[.int .i64 (2 + l.length + p.reqs.length), v, .int .i64 0]) ∧ OwnF Edge.enc 3 85 w.heap.size w' v (netL p l) ∧ Below w.heap.size w w' := by
  have hck := fun W (hW : Below w.heap.size w W) => degree_Check_c W p Aq cq (hq.below hW)
  have hsm := fun W (hW : Below w.heap.size w W) => average_Sums_c W A c l (hl.below hW) (by omega)
  have hprs := fun W => pairs_c p A Aq l.length c cq W
  obtain ⟨hp0, hall⟩ := netE_ok hE
  obtain ⟨hu1, hu2, hr64, hqcr⟩ := prg_ok hp0
  have hpl3 := pairsL_le p.reqs l
  obtain ⟨ls, hls⟩ : ∃ ls : List { x : Nat × Int // x.1 < l.length ∧ 0 ≤ x.2 ∧ x.2 < p.reqs.length }, ls.map (·.1) = pairsL p.reqs l := exists_sub (fun x hx => pairsL_mem hx)
  rw [hp0] at hck
  rw [hall] at hsm
  clear hE hp0
  have hst := fun (n : Nat) (hn : 2 ≤ n) (Bl Bp n₀ n₁ : Nat) W a1 a2 a3 a4 a5 a6 a7 a8 => pairs_stops n hn Bl Bp n₀ n₁ A Aq c cq l p (fun x : { x : Nat × Int // x.1 < l.length ∧ 0 ≤ x.2 ∧ x.2 < p.reqs.length } => x.1) ls hls W a1 a2 a3 a4 (by omega) a5 a6 a7 a8
  have HL : Hid (netL p l = upTo (edgeA p.uses l) l.length ++ ls.map (fun x => edgeP l x.1) ++ upTo (edgeR l.length p.reqs) p.reqs.length) := by show _ = _; rw [netL, ← hls, List.map_map]; rfl
  obtain ⟨pnm, pnum, puses, pearn, pmn, pmd, qs⟩ := p
  dsimp only at *
  refine (callsIn_wide (n := 10)).1 ?_
  refine callsIn_of_wp_marks Tryz.func18 rfl trivial ?_ rfl
  simp only [Tryz.ntmps18, List.size_toArray, List.length_cons, List.length_nil, Nat.reduceAdd, Nat.reduceSub, Array.replicate_succ, Array.replicate_zero, List.push_toArray, List.append_toArray, List.nil_append, List.cons_append]
  gi_wp2_with fail
  refine ⟨trivial, ?_⟩
  refine (callsIn_wide.2 (hck _ (below3 _ _ _ _))).mono ?_
  rintro e w1 ⟨rfl, hb1⟩
  have hp1 : ∀ j : Nat, w1.cell? ⟨w.heap.size, j, none⟩ = #[.string pnm, .int .i64 pnum, .int .i64 puses, .int .i64 pearn, .int .i64 pmn, .int .i64 pmd, .slice Aq qs.length cq][j]? := fun j => ((bcell hb1).1 _ _ (by rw [alloc3_size]; omega)).trans (blk_cell (alloc3_blk0 w _ _ _) j)
  have hl1 : w1.cell? ⟨w.heap.size + 1, 0, none⟩ = some (.slice A l.length c) := ((bcell hb1).1 _ _ (by rw [alloc3_size]; omega)).trans (by rw [blk_cell (alloc3_blk1 w _ _ _)]; rfl)
  have he1 : w1.cell? ⟨w.heap.size + 1 + 1, 0, none⟩ = some (.slice none 0 0) := ((bcell hb1).1 _ _ (by rw [alloc3_size]; omega)).trans (by rw [blk_cell (alloc3_blk2 w _ _ _)]; rfl)
  have hf1 : w1.frozen? ⟨w.heap.size + 1 + 1, 0, none⟩ = false := ((bcell hb1).2 _ _ (by rw [alloc3_size]; omega)).trans (by rw [blk_frozen (alloc3_blk2 w _ _ _)])
  have hBw1 := bthen (below3 w _ _ _) hb1
  have hz1 : w.heap.size + 1 + 1 < w1.heap.size := by have := hb1.size; rw [alloc3_size] at this; omega
  clear hb1 hck
  gi_wp2_with fail
  refine ⟨trivial, ?_⟩
  refine (callsIn_wide.2 (hsm _ hBw1)).mono ?_
  rintro e w2 ⟨rfl, hb2⟩
  have hp2 : ∀ j : Nat, w2.cell? ⟨w.heap.size, j, none⟩ = _ := fun j => ((bcell hb2).1 _ _ (by omega)).trans (hp1 j)
  have hl2 := ((bcell hb2).1 _ _ (by omega)).trans hl1
  have he2 := ((bcell hb2).1 _ _ hz1).trans he1
  have hf2 := ((bcell hb2).2 _ _ hz1).trans hf1
  have hBw2 := bthen hBw1 hb2
  have hz2 : w.heap.size + 1 + 1 < w2.heap.size := by have := hb2.size; omega
  have hz20 : w.heap.size < w2.heap.size := by omega
  have hz21 : w.heap.size + 1 < w2.heap.size := by omega
  clear hp1 hl1 he1 hf1 hBw1 hz1 hb2 hsm
  gi_wp2_with fail
  have hp4 : ∀ j : Nat, (w2.alloc (.cells #[.int .i64 (1 + l.length)] 3)).cell? ⟨w.heap.size, j, none⟩ = _ := fun j => (World.cell?_alloc_past _ _ _ hz20).trans (hp2 j)
  have hl4 : (w2.alloc (.cells #[.int .i64 (1 + l.length)] 3)).cell? ⟨w.heap.size + 1, 0, none⟩ = _ := (World.cell?_alloc_past _ _ _ hz21).trans hl2
  have he4 : (w2.alloc (.cells #[.int .i64 (1 + l.length)] 3)).cell? ⟨w.heap.size + 1 + 1, 0, none⟩ = _ := (World.cell?_alloc_past _ _ _ hz2).trans he2
  have hf4 : (w2.alloc (.cells #[.int .i64 (1 + l.length)] 3)).frozen? ⟨w.heap.size + 1 + 1, 0, none⟩ = _ := (World.frozen?_alloc_past _ _ _ hz2).trans hf2
  have hm4 : (w2.alloc (.cells #[.int .i64 (1 + l.length)] 3)).cell? ⟨w2.heap.size, 0, none⟩ = some (.int .i64 (1 + l.length)) := by simp
  have hz4 := World.size_alloc w2 (.cells #[.int .i64 (1 + l.length)] 3)
  have hB4 := bthen hBw2 (below1 w2 (.cells #[.int .i64 (1 + l.length)] 3))
  generalize w2.alloc _ = W4 at *
  clear hp2 hl2 he2 hf2 hBw2
  gi_loopw [9, 10, 39] (fun _ _ i wr => ∃ (k : Nat) (B : Option Addr) (cB : Nat), k ≤ l.length ∧ i = .int .i64 k ∧ wr.cell? ⟨w.heap.size + 1 + 1, 0, none⟩ = some (.slice B (upTo (edgeA puses l) k).length cB) ∧ wr.frozen? ⟨w.heap.size + 1 + 1, 0, none⟩ = false ∧ OwnF Edge.enc 3 85 W4.heap.size wr (.slice B (upTo (edgeA puses l) k).length cB) (upTo (edgeA puses l) k) ∧ BelowX W4.heap.size (w.heap.size + 1 + 1) W4 wr) (fun _ _ i _ => l.length - (intOf i).toNat)
  case atStart => exact ⟨0, none, 0, Nat.zero_le _, rfl, he4, hf4, OwnF.nil _ _ _ _ _, BelowX.refl _ _ _⟩
  case round =>
    obtain ⟨k, B, cB, hk, rfl, he, hf, hown, hX⟩ := hrel
    have hpr : ∀ j : Nat, wr.cell? ⟨w.heap.size, j, none⟩ = _ := fun j => (hX.cell (p := ⟨w.heap.size, j, none⟩) (by simp; omega) (by simp; omega)).trans (hp4 j)
    have hlr : wr.cell? ⟨w.heap.size + 1, 0, none⟩ = some (.slice A l.length c) := (hX.cell (p := ⟨w.heap.size + 1, 0, none⟩) (by simp; omega) (by simp)).trans hl4
    have hmr : wr.cell? ⟨w2.heap.size, 0, none⟩ = some (.int .i64 (1 + l.length)) := (hX.cell (p := ⟨w2.heap.size, 0, none⟩) (by simp; omega) (by simp; omega)).trans hm4
    have hsr : W4.heap.size ≤ wr.heap.size := hX.size
    have hz0r : w.heap.size < wr.heap.size := by omega
    have hz1r : w.heap.size + 1 < wr.heap.size := by omega
    have hz2r : w.heap.size + 1 + 1 < wr.heap.size := by omega
    have hzmr : w2.heap.size < wr.heap.size := by omega
    have hBr : Below w.heap.size w wr := hB4.trans (hX.below (by omega) (by omega))
    by_cases hlt : k < l.length
    · obtain ⟨x, b, off, hx, rfl, hb, f0, f1, f2, f3, f4⟩ := kAtt_get (hl.below hBr) hlt
      obtain ⟨_, _, g3, g4, _, _⟩ := attOk_bd (List.all_eq_true.1 hall x (List.mem_of_getElem? hx.out))
      have hmul : wrap64 (x.cr * puses) = x.cr * puses := by
        have h1 : x.cr * puses ≤ 60 * 4 := Int.mul_le_mul g4 hu2 (by omega) (by omega)
        have h2 : 0 ≤ x.cr * puses := Int.mul_nonneg g3 (by omega)
        unfold wrap64; omega
      have hts : Hid (upTo (edgeA puses l) (k + 1) = upTo (edgeA puses l) k ++ [⟨0, 1 + k, x.cr * puses⟩]) := by show _ = _; rw [upTo, edgeA_at hx.out]
      have hle := upTo_len1 (edgeA_le puses l) k
      clear hl hq hp4 hl4 he4 hf4 hm4 hls hst HL hprs hqcr hall hpl3
      gi_wp2_with (gi_at_builtin; refine stopHere ?_)
      unfold Stopped
      refine wpListIn_append1 rfl _ _ 38 rfl 85 (.agg #[.int .i64 0, .int .i64 0, .int .i64 0]) 24 Tryz.underlying38 edge_info rfl (by decide) edge_len edge_one W4.heap.size _ (upTo (edgeA puses l) k) rfl ((hown.alloc _).alloc _) _ (⟨0, 1 + k, x.cr * puses⟩) rfl ?c2 ?c3 (by decide) ?c4 ?_
      case c2 => intro j u hj; simpa [Edge.enc] using hj
      case c3 => omega
      case c4 => simp <;> omega
      rintro v' w3 hown' hsz3 hB3 hg3 ⟨A3, c3, rfl⟩
      have hb3 := hB3 W4.heap.size _ (Nat.le_refl _) (Below.refl _ _)
      have he3 : w3.cell? ⟨w.heap.size + 1 + 1, 0, none⟩ = some (.slice B (upTo (edgeA puses l) k).length cB) := (hb3.cell (p := ⟨w.heap.size + 1 + 1, 0, none⟩) (by simp <;> omega)).trans (by rw [World.cell?_alloc_past _ _ _ (by simp <;> omega), World.cell?_alloc_past _ _ _ (by omega)]; exact he)
      have hf3 : w3.frozen? ⟨w.heap.size + 1 + 1, 0, none⟩ = false := (hb3.frozen (p := ⟨w.heap.size + 1 + 1, 0, none⟩) (by simp <;> omega)).trans (by rw [World.frozen?_alloc_past _ _ _ (by simp <;> omega), World.frozen?_alloc_past _ _ _ (by omega)]; exact hf)
      gi_wp2_with fail
      refine ⟨⟨k + 1, A3, c3, by omega, by simp, ?_, ?_, ?_, ?_⟩, by simp [intOf]; omega⟩
      · rw [World.cell?_setCell_same' _ _ _ (by rw [he3]; rfl), hts.out]; simp
      · rw [World.frozen?_setCell]; exact hf3
      · rw [hts.out, List.length_append]; exact ownsRow_setCell_below hown' (by simp <;> omega) _
      · exact ((((hX.alloc hsr _).alloc (by simp <;> omega) _).trans (.of_below hb3 (Nat.le_refl _)))).set (.inl rfl) _

    · obtain rfl : k = l.length := by omega
      gi_wp2_with fail
      refine ⟨trivial, ?_⟩
      refine (callsIn_wide.2 (hprs _)).mono ?_
      rintro e w5' ⟨rfl, hw5⟩
      have hBw5 : Below wr.heap.size wr w5' := by rw [hw5]; exact below2 _ _ _
      have hz5 : w5'.heap.size = wr.heap.size + 1 + 1 := by rw [hw5]; simp
      have hcp5 : w5'.heap[wr.heap.size]? = some (.cells #[.string pnm, .int .i64 pnum, .int .i64 puses, .int .i64 pearn, .int .i64 pmn, .int .i64 pmd, .slice Aq qs.length cq] 26 (0, 0)) := by rw [hw5]; exact alloc2_blk0 wr _ _
      have hcl5 : w5'.cell? ⟨wr.heap.size + 1, 0, none⟩ = some (.slice A l.length c) := by rw [hw5, blk_cell (alloc2_blk1 wr _ _)]; rfl
      have he5 := ((bcell hBw5).1 _ _ hz2r).trans he
      have hf5 := ((bcell hBw5).2 _ _ hz2r).trans hf
      have hX5 : BelowX W4.heap.size (w.heap.size + 1 + 1) W4 w5' := hX.trans (.of_below hBw5 hsr)
      have ho5 := hown.below hBw5
      have hB5 : Below w.heap.size w w5' := bthen hBr hBw5
      clear hw5
      gi_wp2_with fail
      have hsq := hst 9 (by omega) (wr.heap.size + 1) wr.heap.size w.heap.size wr.heap.size w5' (by omega) (Nat.le_refl _) (by omega) (by omega) hcl5 hcp5 (hl.s.below hB5) (hq.s.below hB5)
      clear hst hcl5 hcp5
      refine wpIn_rangeFunc_ownG rfl (by omega) (gf := 82) (lb := #[.pointer (some ⟨wr.heap.size + 1, 0, none⟩), .pointer (some ⟨wr.heap.size, 0, none⟩)]) rfl trivial (enters_of Tryz.func82 (by kernel_rfl) rfl)
        hsq kp_t (kp_b (by omega)) (Below.refl _ _) (fun _ => rfl)
        (fun pre W => (∃ (B : Option Addr) (cB : Nat), W.cell? ⟨w.heap.size + 1 + 1, 0, none⟩ = some (.slice B (upTo (edgeA puses l) l.length ++ pre.map (fun x => edgeP l x.1)).length cB) ∧ W.frozen? ⟨w.heap.size + 1 + 1, 0, none⟩ = false ∧ OwnF Edge.enc 3 85 W4.heap.size W (.slice B (upTo (edgeA puses l) l.length ++ pre.map (fun x => edgeP l x.1)).length cB) (upTo (edgeA puses l) l.length ++ pre.map (fun x => edgeP l x.1))) ∧ BelowX W4.heap.size (w.heap.size + 1 + 1) W4 W)
        (fun _ _ _ => False)
        (fun pre W W' row hI hg hr => ?own)
        (fun _ _ _ _ _ hs _ _ => hs)
        ⟨⟨B, cB, by simpa using he5, hf5, by simpa using ho5⟩, hX5⟩
        ?a1 ?assign ?body ?done ?stop
      case own =>
        obtain ⟨⟨B, cB, h1, h2, h3⟩, h4⟩ := hI
        exact ⟨⟨B, cB, cell_kept h1 hg (fun r e => (hr r e).2), (frozen_kept h1 hg (fun r e => (hr r e).2)).trans h2, h3.book hg (fun r e => (hr r e).2)⟩, h4.grown hg h4.size (fun r e => by have := (hr r e).1; omega)⟩
      case assign =>
        intro l0 x W K hK
        gi_wp2
        exact hK
      case stop =>
        rintro D c pre W _ _ h _
        exact h.elim
      case body =>
        rintro l0 pre ⟨⟨xi, xk⟩, hxx⟩ W ⟨⟨B, cB, h1, h2, h3⟩, h4⟩ hpl
        have hx1 : xi < l.length := hxx.1
        have hk0 : 0 ≤ xk := hxx.2.1
        have hk1 : xk < (qs.length : Int) := hxx.2.2
        have hmW : W.cell? ⟨w2.heap.size, 0, none⟩ = some (.int .i64 (1 + l.length)) := (h4.cell (p := ⟨w2.heap.size, 0, none⟩) (by simp; omega) (by simp; omega)).trans hm4
        have hlW : W.cell? ⟨w.heap.size + 1, 0, none⟩ = some (.slice A l.length c) := (h4.cell (p := ⟨w.heap.size + 1, 0, none⟩) (by simp; omega) (by simp)).trans hl4
        have hBW : Below w.heap.size w W := hB4.trans (h4.below (by omega) (by omega))
        have hsW := h4.size
        obtain ⟨x, b, off, hx, rfl, hb, f0, f1, f2, f3, f4⟩ := kAtt_get (hl.below hBW) hx1
        have hts : Hid (upTo (edgeA puses l) l.length ++ (pre ++ [(⟨(xi, xk), hxx⟩ : { x : Nat × Int // x.1 < l.length ∧ 0 ≤ x.2 ∧ x.2 < (qs.length : Int) })]).map (fun x => edgeP l x.1) = upTo (edgeA puses l) l.length ++ pre.map (fun x => edgeP l x.1) ++ [⟨1 + xi, 1 + l.length + xk, x.cr⟩]) := by show _ = _; simp [edgeP, hx.out]
        have hle : (upTo (edgeA puses l) l.length ++ pre.map (fun x => edgeP l x.1)).length < 900000000 := by
          have := upTo_len1 (edgeA_le puses l) l.length
          have h2 := congrArg List.length hls
          rw [List.length_map] at h2
          simp only [List.length_append, List.length_map]
          have h3 : l.length * qs.length ≤ 100000 * 64 := Nat.mul_le_mul hm hr64
          omega
        clear hl hq hp4 hl4 he4 hf4 hm4 hls HL hprs hqcr hall hpl3 he5 hf5 ho5 hX5
        generalize upTo (edgeA puses l) l.length ++ pre.map (fun x => edgeP l x.1) = es at *
        gi_wp2_with fail
        have hwr1 : IntKind.i64.wrap (1 + (xi : Int)) = 1 + xi := by simp [IntKind.wrap, IntKind.bits, IntKind.signed]; omega
        have hwr2 : IntKind.i64.wrap (1 + (l.length : Int) + xk) = 1 + l.length + xk := by simp [IntKind.wrap, IntKind.bits, IntKind.signed]; omega
        refine wpIn_held_tail 12 (fun w' => w'.cell? ⟨w.heap.size + 1 + 1, 0, none⟩ = some (.slice B es.length cB) ∧ w'.cell? ⟨w2.heap.size, 0, none⟩ = some (.int .i64 (1 + l.length)) ∧ w'.cell? ⟨w.heap.size + 1, 0, none⟩ = some (.slice (some ⟨b, off, none⟩) l.length c) ∧ w'.cell? ⟨b, off + xi * 5 + 4, none⟩ = some (.int .i64 x.cr)) (by rintro ⟨_, _, h⟩; exact h) (fun _ _ _ _ _ h => h) (by kernel_rfl) (by kernel_rfl) (by kernel_rfl) ⟨h1, hmW, hlW, f4⟩ ?_
        simp only [List.take_succ_cons, List.take_zero, List.drop_succ_cons, List.drop_zero]
        iterate 12
          refine held_cons (v := ?_) (by rfl) ?hy ?_
          case hy => (rintro w' ⟨s1, s2, s3, s4⟩; go_simp; try with_reducible rfl)
          simp only [Act.put, List.setIfInBounds_toArray, List.set_cons_zero, List.set_cons_succ]
        refine held_last (w' := (W.alloc (.cells #[.int .i64 (1 + xi), .int .i64 (1 + l.length + xk), .int .i64 x.cr] 85)).drew) (v := .slice (some ⟨W.heap.size, 0, none⟩) 1 1) rfl (by rfl) ?r1 ?r2 ?_
        case r1 => go_simp
        case r2 => exact ⟨(World.cell?_alloc_past (w := W) _ _ _ (by omega)).trans h1, (World.cell?_alloc_past (w := W) _ _ _ (by omega)).trans hmW, (World.cell?_alloc_past (w := W) _ _ _ (by omega)).trans hlW, (World.cell?_alloc_past (w := W) _ _ _ (by omega)).trans f4⟩
        have h3d : OwnF Edge.enc 3 85 W4.heap.size W.drew (.slice B es.length cB) es := h3.below (Below.refl _ W).drew
        go_wp2_with (at_builtin; refine stopHere ?_)
        unfold Stopped
        refine wpList_append1 rfl _ _ 38 rfl 85 (.agg #[.int .i64 0, .int .i64 0, .int .i64 0]) 24 Tryz.underlying38 edge_info rfl (by decide) edge_len edge_one W4.heap.size _ es rfl (h3d.alloc _) _ (⟨1 + xi, 1 + l.length + xk, x.cr⟩) rfl ?c2 ?c3 (by decide) ?c4 ?_
        case c2 => intro j u hj; simpa [Edge.enc] using hj
        case c3 => omega
        case c4 => simp <;> omega
        rintro v' w6 hown' hsz6 hB6 hg6 ⟨A6, c6, rfl⟩
        have hb6 := hB6 W4.heap.size _ (Nat.le_refl _) (Below.refl _ _)
        have he6 : w6.cell? ⟨w.heap.size + 1 + 1, 0, none⟩ = some (.slice B es.length cB) := (hb6.cell (p := ⟨w.heap.size + 1 + 1, 0, none⟩) (by simp <;> omega)).trans ((World.cell?_alloc_past (w := W) _ _ _ (by omega)).trans h1)
        have hf6 : w6.frozen? ⟨w.heap.size + 1 + 1, 0, none⟩ = false := (hb6.frozen (p := ⟨w.heap.size + 1 + 1, 0, none⟩) (by simp <;> omega)).trans ((World.frozen?_alloc_past (w := W) _ _ _ (by omega)).trans h2)
        go_wp2
        refine ⟨KeepsOthers.from ((KeepsOthers.trans ?k1 (KeepsOthers.grown (h3d.alloc _) hg6)).trans (KeepsOthers.setCell _ _ _)) _, ⟨((Below.trans ?b1 (hb6.mono (by omega))).setCell (p := ⟨w.heap.size + 1 + 1, 0, none⟩) (by simp <;> omega) _), ((KeepT.trans ?t1 (KeepT.grownF (h3d.alloc _) hg6 (by decide))).setCell (p := ⟨w.heap.size + 1 + 1, 0, none⟩) (by simp <;> omega) _)⟩, ⟨⟨A6, c6, ?g1, ?g2, ?g3⟩, ?g4⟩⟩
        case k1 => exact ⟨(KeepsOthers.alloc W _).size, (KeepsOthers.alloc W _).same⟩
        case b1 => exact ((below1 W _).mono (by omega)).drew
        case t1 => exact ((KeepT.refl _ _ W).alloc _).drew
        case g1 => rw [World.cell?_setCell_same' _ _ _ (by rw [he6]; rfl), hts.out]; simp
        case g2 => rw [World.frozen?_setCell]; exact hf6
        case g3 => rw [hts.out, List.length_append]; exact ownsRow_setCell_below hown' (by simp <;> omega) _
        case g4 => exact ((h4.trans (.of_below (((below1 W _).mono hsW).drew) (Nat.le_refl _))).trans (.of_below hb6 (Nat.le_refl _))).set (.inl rfl) _
      case done =>
        rintro D ys W hD rfl ⟨⟨B2, cB2, h1, h2, h3⟩, h4⟩ hK
        have hL0 := HL
        obtain ⟨es, hes⟩ : ∃ es, es = upTo (edgeA puses l) l.length ++ ys.map (fun x => edgeP l x.1) := ⟨_, rfl⟩
        have hle : es.length < 900000000 := by
          have := upTo_len1 (edgeA_le puses l) l.length
          have h2 := congrArg List.length hls
          rw [List.length_map] at h2
          rw [hes]
          simp only [List.length_append, List.length_map]
          have h3 : l.length * qs.length ≤ 100000 * 64 := Nat.mul_le_mul hm hr64
          omega
        have hL : Hid (netL ⟨pnm, pnum, puses, pearn, pmn, pmd, qs⟩ l = es ++ upTo (edgeR l.length qs) qs.length) := by show _ = _; rw [HL.out, hes]
        rw [← hes] at h1 h3
        clear hL0 HL hes hls hpl3 hprs he5 hf5 ho5 hX5 he4 hf4
        have hpW : ∀ j : Nat, W.cell? ⟨w.heap.size, j, none⟩ = _ := fun j => (h4.cell (p := ⟨w.heap.size, j, none⟩) (by simp; omega) (by simp; omega)).trans (hp4 j)
        have hsW := h4.size
        gi_wp2_with fail
        gi_loopw [13, 14, 78] (fun _ _ i wr => ∃ (k : Nat) (B : Option Addr) (cB : Nat), k ≤ qs.length ∧ i = .int .i64 k ∧ wr.cell? ⟨w.heap.size + 1 + 1, 0, none⟩ = some (.slice B (es ++ upTo (edgeR l.length qs) k).length cB) ∧ wr.frozen? ⟨w.heap.size + 1 + 1, 0, none⟩ = false ∧ OwnF Edge.enc 3 85 W4.heap.size wr (.slice B (es ++ upTo (edgeR l.length qs) k).length cB) (es ++ upTo (edgeR l.length qs) k) ∧ BelowX W4.heap.size (w.heap.size + 1 + 1) W4 wr ∧ wr.heap[D]? = some (.deferred (some []))) (fun _ _ i _ => qs.length - (intOf i).toNat)
        case atStart => exact ⟨0, B2, cB2, Nat.zero_le _, rfl, by simpa [upTo] using h1, h2, by simpa [upTo] using h3, h4, hK⟩
        case round =>
          obtain ⟨k, B, cB, hk, rfl, he, hf, hown, hX, hKr⟩ := hrel
          have hmr : wr.cell? ⟨w2.heap.size, 0, none⟩ = some (.int .i64 (1 + l.length)) := (hX.cell (p := ⟨w2.heap.size, 0, none⟩) (by simp; omega) (by simp; omega)).trans hm4
          have hsr : W4.heap.size ≤ wr.heap.size := hX.size
          have hz0r : w.heap.size < wr.heap.size := by omega
          have hz1r : w.heap.size + 1 < wr.heap.size := by omega
          have hz2r : w.heap.size + 1 + 1 < wr.heap.size := by omega
          have hzmr : w2.heap.size < wr.heap.size := by omega
          have hBr : Below w.heap.size w wr := hB4.trans (hX.below (by omega) (by omega))
          have hle2 := upTo_len1 (edgeR_le l.length qs) k
          by_cases hlt : k < qs.length
          · obtain ⟨x, b, off, B9, c9, hx, rfl, hb, hlc, hrB, f0, f1, f2, f3, f4, f5⟩ := kReq_get (hq.below hBr) hlt
            have hts : Hid (es ++ upTo (edgeR l.length qs) (k + 1) = es ++ upTo (edgeR l.length qs) k ++ [⟨1 + l.length + k, 1 + l.length + qs.length, x.cr⟩]) := by show _ = _; rw [upTo, ← List.append_assoc]; congr 1; simp [edgeR, hx.out]
            have hle3 : (es ++ upTo (edgeR l.length qs) k).length < 950000000 := by rw [List.length_append]; omega
            clear hl hp4 hl4 hm4 hqcr hall hL
            generalize es ++ upTo (edgeR l.length qs) k = fs at *
            gi_wp2_with (gi_at_builtin; refine stopHere ?_)
            unfold Stopped
            refine wpListIn_append1 rfl _ _ 38 rfl 85 (.agg #[.int .i64 0, .int .i64 0, .int .i64 0]) 24 Tryz.underlying38 edge_info rfl (by decide) edge_len edge_one W4.heap.size _ fs rfl ((hown.alloc _).alloc _) _ (⟨1 + l.length + k, 1 + l.length + qs.length, x.cr⟩) rfl ?c2 ?c3 (by decide) ?c4 ?_
            case c2 => intro j u hj; simpa [Edge.enc] using hj
            case c3 => omega
            case c4 => simp <;> omega
            rintro v' w3 hown' hsz3 hB3 hg3 ⟨A3, c3, rfl⟩
            have hb3 := hB3 W4.heap.size _ (Nat.le_refl _) (Below.refl _ _)
            have he3 : w3.cell? ⟨w.heap.size + 1 + 1, 0, none⟩ = some (.slice B fs.length cB) := (hb3.cell (p := ⟨w.heap.size + 1 + 1, 0, none⟩) (by simp <;> omega)).trans (by rw [World.cell?_alloc_past _ _ _ (by simp <;> omega), World.cell?_alloc_past _ _ _ (by omega)]; exact he)
            have hf3 : w3.frozen? ⟨w.heap.size + 1 + 1, 0, none⟩ = false := (hb3.frozen (p := ⟨w.heap.size + 1 + 1, 0, none⟩) (by simp <;> omega)).trans (by rw [World.frozen?_alloc_past _ _ _ (by simp <;> omega), World.frozen?_alloc_past _ _ _ (by omega)]; exact hf)
            gi_wp2_with fail
            refine ⟨⟨k + 1, A3, c3, by omega, by simp, ?_, ?_, ?_, ?_, ?_⟩, by simp [intOf]; omega⟩
            · rw [World.cell?_setCell_same' _ _ _ (by rw [he3]; rfl), hts.out]; simp
            · rw [World.frozen?_setCell]; exact hf3
            · rw [hts.out, List.length_append]; exact ownsRow_setCell_below hown' (by simp <;> omega) _
            · exact ((((hX.alloc hsr _).alloc (by simp <;> omega) _).trans (.of_below hb3 (Nat.le_refl _)))).set (.inl rfl) _
            · exact ((((KeepsOthers.alloc wr _).trans (KeepsOthers.alloc _ _)).trans (KeepsOthers.grown ((hown.alloc _).alloc _) hg3)).trans (KeepsOthers.setCell _ _ _)).same D _ hKr rfl
          · obtain rfl : k = qs.length := by omega
            gi_wp2_with fail
            gi_region
            gi_wp2
            obtain ⟨v9, hv9⟩ : ∃ v9, v9 = Value.slice B (es.length + (upTo (edgeR l.length qs) qs.length).length) cB := ⟨_, rfl⟩
            rw [← hv9]
            obtain ⟨W5, hW5⟩ : ∃ W5, W5 = (wr.setCell ⟨w.heap.size + 1 + 1, 0, none⟩ v9).drew := ⟨_, rfl⟩
            have hK2 : W5.heap[D]? = some (.deferred (some [])) := by rw [hW5]; exact (KeepsOthers.setCell wr _ _).same D _ hKr rfl
            have d1 : W5.cell? ⟨w.heap.size + 1 + 1, 0, none⟩ = some v9 := by rw [hW5]; exact World.cell?_setCell_same' _ _ _ (by rw [he]; rfl)
            have ho9 : OwnF Edge.enc 3 85 W4.heap.size W5 v9 (es ++ upTo (edgeR l.length qs) qs.length) := by rw [hW5, hv9, ← List.length_append]; exact OwnF.below (w := wr.setCell _ _) (ownsRow_setCell_below hown (by simp <;> omega) _) (Below.refl _ _).drew
            have hX9 : BelowX W4.heap.size (w.heap.size + 1 + 1) W4 W5 := by rw [hW5]; exact (hX.set (.inl rfl) _).drew
            have hB9 : Below w.heap.size w W5 := hB4.trans (hX9.below (by omega) (by omega))
            rw [← hW5]
            clear hW5 hv9
            have hgD := grownBy_putObj' W5 D (.deferred none)
            have hrD : ∀ r, some D = some r → ∃ o : Obj, W5.heap[r]? = some o ∧ o.isCells = false := fun r e => by cases e; exact ⟨_, hK2, rfl⟩
            have e1 := cell_kept d1 hgD hrD
            refine ⟨by simp, .inl ⟨_, _, rfl, run_takeDeferred hK2, ?_⟩⟩
            refine ⟨.tuple #[.int .i64 (1 + l.length + qs.length + 1), v9, .int .i64 0], by simp [results, Tryz.results18, go_sem, e1], ⟨v9, by rw [show (1 + (l.length : Int) + qs.length + 1) = 2 + l.length + qs.length from by omega], ?_, ?_⟩⟩
            · rw [hL.out]; exact (ho9.book hgD hrD).lower (by omega)
            · exact hB9.trans (belowK_b (w := w) (Nat.le_refl _) W5 D _ _ (by have := h4.size; omega) hK2 rfl rfl)
end Go.Proofs.YtaiibchadlaifaaGreatDoor

namespace Go.Proofs.YtaiibchadlaifaaGreatDoor
open Go.RowKit

set_option maxRecDepth 100000 in
set_option maxHeartbeats 8000000 in
theorem ref19_Check_bad (w : World) (p : Prg) (A : Option Addr) (c : Nat) (h : Rd kReq w A p.reqs) (hb : prgHead p = false) :
    Calls Tryz.prog 14 #[.agg #[.string p.nm, .int .i64 p.num, .int .i64 p.uses, .int .i64 p.earn, .int .i64 p.mn, .int .i64 p.md, .slice A p.reqs.length c]] w
      fun e w' => e = .returned (.int .i64 (prgE p)) ∧ Below w.heap.size w w' := by
  have hl := h.len
  obtain ⟨nm, num, uses, earn, mn, md, qs⟩ := p
  dsimp only at *
  by_cases e0 : num < 0
  · skip
    have hE : Hid (prgE ⟨nm, num, uses, earn, mn, md, qs⟩ = 190) := by
      show _ = _
      have : prgHead ⟨nm, num, uses, earn, mn, md, qs⟩ = false := by (simp only [prgHead, inB]; simp; omega)
      rw [prgE, this]; rfl
    skip
    go_enter Tryz.func14, Tryz.ntmps14
    go_wp2_with (go_at_call 39; refine (ref05_Check_c _ _ _).mono ?_; rintro e w2 ⟨rfl, hb1⟩; rw [e7']; have hc1 := (bcell hb1).1; have hz1 : w.heap.size < w2.heap.size := by have := hb1.size; simp at this; omega)
    go_ret
    exact ⟨ret_congr (by rw [hE.out]; rfl), by first | exact below1 _ _ | exact bthen (below1 _ _) hb1⟩
  have e0 : 0 ≤ num := by omega
  by_cases e1 : 255 < num
  · skip
    have hE : Hid (prgE ⟨nm, num, uses, earn, mn, md, qs⟩ = 190) := by
      show _ = _
      have : prgHead ⟨nm, num, uses, earn, mn, md, qs⟩ = false := by (simp only [prgHead, inB]; simp; omega)
      rw [prgE, this]; rfl
    skip
    go_enter Tryz.func14, Tryz.ntmps14
    go_wp2_with (go_at_call 39; refine (ref05_Check_c _ _ _).mono ?_; rintro e w2 ⟨rfl, hb1⟩; rw [e7']; have hc1 := (bcell hb1).1; have hz1 : w.heap.size < w2.heap.size := by have := hb1.size; simp at this; omega)
    go_ret
    exact ⟨ret_congr (by rw [hE.out]; rfl), by first | exact below1 _ _ | exact bthen (below1 _ _) hb1⟩
  have e1 : num ≤ 255 := by omega
  by_cases e2 : uses < 1
  · skip
    have hE : Hid (prgE ⟨nm, num, uses, earn, mn, md, qs⟩ = 190) := by
      show _ = _
      have : prgHead ⟨nm, num, uses, earn, mn, md, qs⟩ = false := by (simp only [prgHead, inB]; simp; omega)
      rw [prgE, this]; rfl
    skip
    go_enter Tryz.func14, Tryz.ntmps14
    go_wp2_with (go_at_call 39; refine (ref05_Check_c _ _ _).mono ?_; rintro e w2 ⟨rfl, hb1⟩; rw [e7']; have hc1 := (bcell hb1).1; have hz1 : w.heap.size < w2.heap.size := by have := hb1.size; simp at this; omega)
    go_ret
    exact ⟨ret_congr (by rw [hE.out]; rfl), by first | exact below1 _ _ | exact bthen (below1 _ _) hb1⟩
  have e2 : 1 ≤ uses := by omega
  by_cases e3 : 4 < uses
  · skip
    have hE : Hid (prgE ⟨nm, num, uses, earn, mn, md, qs⟩ = 190) := by
      show _ = _
      have : prgHead ⟨nm, num, uses, earn, mn, md, qs⟩ = false := by (simp only [prgHead, inB]; simp; omega)
      rw [prgE, this]; rfl
    skip
    go_enter Tryz.func14, Tryz.ntmps14
    go_wp2_with (go_at_call 39; refine (ref05_Check_c _ _ _).mono ?_; rintro e w2 ⟨rfl, hb1⟩; rw [e7']; have hc1 := (bcell hb1).1; have hz1 : w.heap.size < w2.heap.size := by have := hb1.size; simp at this; omega)
    go_ret
    exact ⟨ret_congr (by rw [hE.out]; rfl), by first | exact below1 _ _ | exact bthen (below1 _ _) hb1⟩
  have e3 : uses ≤ 4 := by omega
  by_cases e4 : earn < 0
  · skip
    have hE : Hid (prgE ⟨nm, num, uses, earn, mn, md, qs⟩ = 190) := by
      show _ = _
      have : prgHead ⟨nm, num, uses, earn, mn, md, qs⟩ = false := by (simp only [prgHead, inB]; simp; omega)
      rw [prgE, this]; rfl
    skip
    go_enter Tryz.func14, Tryz.ntmps14
    go_wp2_with (go_at_call 39; refine (ref05_Check_c _ _ _).mono ?_; rintro e w2 ⟨rfl, hb1⟩; rw [e7']; have hc1 := (bcell hb1).1; have hz1 : w.heap.size < w2.heap.size := by have := hb1.size; simp at this; omega)
    go_ret
    exact ⟨ret_congr (by rw [hE.out]; rfl), by first | exact below1 _ _ | exact bthen (below1 _ _) hb1⟩
  have e4 : 0 ≤ earn := by omega
  by_cases e5 : 10000 < earn
  · skip
    have hE : Hid (prgE ⟨nm, num, uses, earn, mn, md, qs⟩ = 190) := by
      show _ = _
      have : prgHead ⟨nm, num, uses, earn, mn, md, qs⟩ = false := by (simp only [prgHead, inB]; simp; omega)
      rw [prgE, this]; rfl
    skip
    go_enter Tryz.func14, Tryz.ntmps14
    go_wp2_with (go_at_call 39; refine (ref05_Check_c _ _ _).mono ?_; rintro e w2 ⟨rfl, hb1⟩; rw [e7']; have hc1 := (bcell hb1).1; have hz1 : w.heap.size < w2.heap.size := by have := hb1.size; simp at this; omega)
    go_ret
    exact ⟨ret_congr (by rw [hE.out]; rfl), by first | exact below1 _ _ | exact bthen (below1 _ _) hb1⟩
  have e5 : earn ≤ 10000 := by omega
  cases e7 : ratOk mn md with
  | false =>
    have e7' : ratE mn md = 50 := by unfold ratE; rw [e7]; rfl
    have hE : Hid (prgE ⟨nm, num, uses, earn, mn, md, qs⟩ = 190) := by
      show _ = _
      simp [prgE, prgHead, e7]
    clear e7
    go_enter Tryz.func14, Tryz.ntmps14
    go_wp2_with (go_at_call 39; refine (ref05_Check_c _ _ _).mono ?_; rintro e w2 ⟨rfl, hb1⟩; rw [e7']; have hc1 := (bcell hb1).1; have hz1 : w.heap.size < w2.heap.size := by have := hb1.size; simp at this; omega)
    go_ret
    exact ⟨ret_congr (by rw [hE.out]; rfl), by first | exact below1 _ _ | exact bthen (below1 _ _) hb1⟩
  | true =>
  have e7' : ratE mn md = 0 := by unfold ratE; rw [e7]; rfl
  have hm : 1 ≤ md ∧ md ≤ 1073741824 := by have e7 := e7; unfold ratOk at e7; rw [decide_eq_true_eq] at e7; omega
  obtain ⟨m1, m2⟩ := hm
  by_cases e8 : mn < 0
  · skip
    have hE : Hid (prgE ⟨nm, num, uses, earn, mn, md, qs⟩ = 190) := by
      show _ = _
      have : prgHead ⟨nm, num, uses, earn, mn, md, qs⟩ = false := by (simp only [prgHead, inB]; simp; omega)
      rw [prgE, this]; rfl
    clear e7
    go_enter Tryz.func14, Tryz.ntmps14
    go_wp2_with (go_at_call 39; refine (ref05_Check_c _ _ _).mono ?_; rintro e w2 ⟨rfl, hb1⟩; rw [e7']; have hc1 := (bcell hb1).1; have hz1 : w.heap.size < w2.heap.size := by have := hb1.size; simp at this; omega)
    go_ret
    exact ⟨ret_congr (by rw [hE.out]; rfl), by first | exact below1 _ _ | exact bthen (below1 _ _) hb1⟩
  have e8 : 0 ≤ mn := by omega
  by_cases e9 : 12 * md < mn
  · skip
    have hE : Hid (prgE ⟨nm, num, uses, earn, mn, md, qs⟩ = 190) := by
      show _ = _
      have : prgHead ⟨nm, num, uses, earn, mn, md, qs⟩ = false := by (simp only [prgHead, inB]; simp; omega)
      rw [prgE, this]; rfl
    clear e7
    go_enter Tryz.func14, Tryz.ntmps14
    go_wp2_with (go_at_call 39; refine (ref05_Check_c _ _ _).mono ?_; rintro e w2 ⟨rfl, hb1⟩; rw [e7']; have hc1 := (bcell hb1).1; have hz1 : w.heap.size < w2.heap.size := by have := hb1.size; simp at this; omega)
    go_ret
    exact ⟨ret_congr (by rw [hE.out]; rfl), by first | exact below1 _ _ | exact bthen (below1 _ _) hb1⟩
  have e9 : mn ≤ 12 * md := by omega
  by_cases e10 : 64 < qs.length
  · skip
    have hE : Hid (prgE ⟨nm, num, uses, earn, mn, md, qs⟩ = 190) := by
      show _ = _
      have : prgHead ⟨nm, num, uses, earn, mn, md, qs⟩ = false := by (simp only [prgHead, inB]; simp; omega)
      rw [prgE, this]; rfl
    clear e7
    go_enter Tryz.func14, Tryz.ntmps14
    go_wp2_with (go_at_call 39; refine (ref05_Check_c _ _ _).mono ?_; rintro e w2 ⟨rfl, hb1⟩; rw [e7']; have hc1 := (bcell hb1).1; have hz1 : w.heap.size < w2.heap.size := by have := hb1.size; simp at this; omega)
    go_ret
    exact ⟨ret_congr (by rw [hE.out]; rfl), by first | exact below1 _ _ | exact bthen (below1 _ _) hb1⟩
  have e10 : qs.length ≤ 64 := by omega
  exfalso
  have : prgHead ⟨nm, num, uses, earn, mn, md, qs⟩ = true := by simp only [prgHead, inB, e7]; simp; omega
  rw [this] at hb; cases hb
end Go.Proofs.YtaiibchadlaifaaGreatDoor

namespace Go.Proofs.YtaiibchadlaifaaGreatDoor
open Go.RowKit

set_option maxRecDepth 100000 in
set_option maxHeartbeats 8000000 in
theorem ref19_Check_c (w : World) (p : Prg) (A : Option Addr) (c : Nat) (h : Rd kReq w A p.reqs) :
    Calls Tryz.prog 14 #[.agg #[.string p.nm, .int .i64 p.num, .int .i64 p.uses, .int .i64 p.earn, .int .i64 p.mn, .int .i64 p.md, .slice A p.reqs.length c]] w
      fun e w' => e = .returned (.int .i64 (prgE p)) ∧ Below w.heap.size w w' := by
  cases hh : prgHead p with
  | false => exact ref19_Check_bad w p A c h hh
  | true =>
  have hl := h.len
  obtain ⟨nm, num, uses, earn, mn, md, qs⟩ := p
  dsimp only at *
  have hh2 := hh
  simp only [prgHead, inB] at hh2
  simp only [Bool.and_eq_true, decide_eq_true_eq] at hh2
  obtain ⟨⟨⟨⟨⟨⟨e0, e1⟩, e2, e3⟩, e4, e5⟩, e7⟩, e8, e9⟩, e10⟩ := hh2
  have e7' : ratE mn md = 0 := by unfold ratE; rw [e7]; rfl
  obtain ⟨m1, m2⟩ : 1 ≤ md ∧ md ≤ 1073741824 := by have e7 := e7; unfold ratOk at e7; rw [decide_eq_true_eq] at e7; omega
  have hE : Hid (prgE ⟨nm, num, uses, earn, mn, md, qs⟩ = if qs.all reqOk then 0 else 190) := by
    show _ = _
    rw [prgE, hh]; rfl
  clear e7 hh
  go_enter Tryz.func14, Tryz.ntmps14
  go_wp2_with (go_at_call 39; refine (ref05_Check_c _ _ _).mono ?_; rintro e w2 ⟨rfl, hb1⟩; rw [e7']; have hc1 := (bcell hb1).1; have hz1 : w.heap.size < w2.heap.size := by have := hb1.size; simp at this; omega)
  have hB := bthen (below1 _ _) hb1
  have hp1 : ∀ j : Nat, w2.cell? ⟨w.heap.size, j, none⟩ = #[.string nm, .int .i64 num, .int .i64 uses, .int .i64 earn, .int .i64 mn, .int .i64 md, .slice A qs.length c][j]? := fun j => ((bcell hb1).1 _ _ (by simp)).trans (blk_cell (alloc1_blk w _) j)
  clear hc1 hb1 e0 e1 e2 e3 e4 e5 e7' e8 e9 m1 m2
  go_loopw [3, 4, 5] (fun i _ _ wr => ∃ k : Nat, k ≤ qs.length ∧ i = .int .i64 k ∧ Hid (((qs.take k).all reqOk) = true) ∧ Below w2.heap.size w2 wr) (fun i _ _ _ => qs.length - (intOf i).toNat)
  case atStart => exact ⟨0, Nat.zero_le _, rfl, rfl, Below.refl _ _⟩
  case round =>
    obtain ⟨k, hk, rfl, hall, hBr⟩ := hrel
    have hpr : ∀ j : Nat, wr.cell? ⟨w.heap.size, j, none⟩ = _ := fun j => ((bcell hBr).1 _ _ hz1).trans (hp1 j)
    have hBw := hB.trans (hBr.mono hB.size)
    have hzr := hBr.size
    by_cases hlt : k < qs.length
    · obtain ⟨x, b, off, B, c', hx, rfl, hb, hc', hr, f0, f1, f2, f3, f4, f5⟩ := kReq_get (h.below hBw) hlt
      have hxl := hr.len
      have hst : Hid ((qs.take (k + 1)).all reqOk = reqOk x) := by show _ = _; rw [take_snoc_get hx.out, List.all_append, hall.out]; simp
      have hbad : Hid (reqOk x = false → prgE ⟨nm, num, uses, earn, mn, md, qs⟩ = 190) := by
        show _ → _
        intro hq
        rw [hE.out, if_neg]
        intro h3
        have := List.all_eq_true.1 h3 x (List.mem_of_getElem? hx.out)
        rw [hq] at this; cases this
      clear h
      by_cases q0 : x.cr < 1
      · have hE : Hid (prgE ⟨nm, num, uses, earn, mn, md, qs⟩ = 190) := hbad.out (by simp only [reqOk, inB]; simp; omega)
        clear hst hbad hr
        go_wp2
        go_ret
        exact ⟨ret_congr (by rw [hE.out]; rfl), bthen hBw (below1 _ _)⟩
      have q0 : 1 ≤ x.cr := by omega
      by_cases q1 : 10000 < x.cr
      · have hE : Hid (prgE ⟨nm, num, uses, earn, mn, md, qs⟩ = 190) := hbad.out (by simp only [reqOk, inB]; simp; omega)
        clear hst hbad hr
        go_wp2
        go_ret
        exact ⟨ret_congr (by rw [hE.out]; rfl), bthen hBw (below1 _ _)⟩
      have q1 : x.cr ≤ 10000 := by omega
      by_cases q2 : x.gr < 0
      · have hE : Hid (prgE ⟨nm, num, uses, earn, mn, md, qs⟩ = 190) := hbad.out (by simp only [reqOk, inB]; simp; omega)
        clear hst hbad hr
        go_wp2
        go_ret
        exact ⟨ret_congr (by rw [hE.out]; rfl), bthen hBw (below1 _ _)⟩
      have q2 : 0 ≤ x.gr := by omega
      by_cases q3 : 12 < x.gr
      · have hE : Hid (prgE ⟨nm, num, uses, earn, mn, md, qs⟩ = 190) := hbad.out (by simp only [reqOk, inB]; simp; omega)
        clear hst hbad hr
        go_wp2
        go_ret
        exact ⟨ret_congr (by rw [hE.out]; rfl), bthen hBw (below1 _ _)⟩
      have q3 : x.gr ≤ 12 := by omega
      have hR : Hid (reqOk x = x.fr.all fun c => inB c 0 4095) := by
        show _ = _
        have h1 : inB x.cr 1 10000 = true := by simp [inB]; omega
        have h2 : inB x.gr 0 12 = true := by simp [inB]; omega
        rw [reqOk, h1, h2]; rfl
      obtain ⟨wo, rfl⟩ : ∃ wo : World, wo = wr := ⟨_, rfl⟩
      have hB1 := below1 wo (.cells #[.string x.nm, .int .i64 x.cr, .int .i64 x.gr, .bool x.home, .slice x.nA x.nn x.nc, .slice B x.fr.length c'] 75)
      have hq1 := blk_cell (alloc1_blk wo (.cells #[.string x.nm, .int .i64 x.cr, .int .i64 x.gr, .bool x.home, .slice x.nA x.nn x.nc, .slice B x.fr.length c'] 75))
      have hz2 := World.size_alloc wo (.cells #[.string x.nm, .int .i64 x.cr, .int .i64 x.gr, .bool x.home, .slice x.nA x.nn x.nc, .slice B x.fr.length c'] 75)
      go_wp2
      clear q0 q1 q2 q3
      have hr2 := hr.below hB1
      generalize wo.alloc _ = W3 at *
      have hq5 : W3.cell? ⟨wo.heap.size, 5, none⟩ = some (.slice B x.fr.length c') := hq1 5
      clear hq1 hr
      go_loopw [5] (fun j wq => ∃ m : Nat, m ≤ x.fr.length ∧ j = .int .i64 m ∧ Hid (((x.fr.take m).all fun c => inB c 0 4095) = true) ∧ Below W3.heap.size W3 wq) (fun j _ => x.fr.length - (intOf j).toNat)
      case atStart => exact ⟨0, Nat.zero_le _, rfl, rfl, Below.refl _ _⟩
      case round =>
        obtain ⟨m, hm, rfl, hal, hBq⟩ := hrel
        have hqq : wr.cell? ⟨wo.heap.size, 5, none⟩ = some (.slice B x.fr.length c') := ((bcell hBq).1 _ _ (by omega)).trans hq5
        have hBq0 := hBw.trans ((hB1.trans (hBq.mono hB1.size)).mono (by omega))
        by_cases hlm : m < x.fr.length
        · obtain ⟨y, b2, off2, hy, rfl, hb2, g0⟩ := kI_get (hr2.below hBq) hlm
          have hst2 : Hid ((x.fr.take (m + 1)).all (fun c => inB c 0 4095) = inB y 0 4095) := by show _ = _; rw [take_snoc_get hy.out, List.all_append, hal.out]; simp
          have hbad2 : Hid (inB y 0 4095 = false → prgE ⟨nm, num, uses, earn, mn, md, qs⟩ = 190) := by
            show _ → _
            intro hq
            refine hbad.out ?_
            rw [hR.out, ← Bool.not_eq_true, List.all_eq_true]
            intro h3
            have := h3 y (List.mem_of_getElem? hy.out)
            rw [hq] at this; cases this
          clear hr2 hal hbad hst
          by_cases p0 : y < 0
          · have hE : Hid (prgE ⟨nm, num, uses, earn, mn, md, qs⟩ = 190) := hbad2.out (by simp only [inB]; simp; omega)
            go_wp2
            go_ret
            exact ⟨ret_congr (by rw [hE.out]; rfl), hBq0⟩
          by_cases p1 : 4095 < y
          · have hE : Hid (prgE ⟨nm, num, uses, earn, mn, md, qs⟩ = 190) := hbad2.out (by simp only [inB]; simp; omega)
            go_wp2
            go_ret
            exact ⟨ret_congr (by rw [hE.out]; rfl), hBq0⟩
          have hst2 : Hid ((x.fr.take (m + 1)).all (fun c => inB c 0 4095) = true) := by show _ = _; rw [hst2.out]; simp [inB]; omega
          go_wp2
          go_roundw
          case rel => exact ⟨m + 1, hlm, by go_num, hst2, hBq⟩
          case measure => simp [intOf]; omega
        · have h2 := hal.out
          rw [List.take_of_length_le (by omega)] at h2
          have hst2 : Hid ((qs.take (k + 1)).all reqOk = true) := by show _ = _; rw [hst.out, hR.out, h2]
          clear h2
          go_wp2
          go_roundw
          case rel => exact ⟨k + 1, hlt, by go_num, hst2, hBr.trans ((hB1.trans (hBq.mono hB1.size)).mono hzr)⟩
          case measure => simp [intOf]; omega
    · have h2 := hall.out
      rw [List.take_of_length_le (by omega)] at h2
      have hE : Hid (prgE ⟨nm, num, uses, earn, mn, md, qs⟩ = 0) := by show _ = _; rw [hE.out, h2]; rfl
      clear h2
      go_wp2
      go_ret
      exact ⟨ret_congr (by rw [hE.out]; rfl), hBw⟩
end Go.Proofs.YtaiibchadlaifaaGreatDoor

namespace Go.Proofs.YtaiibchadlaifaaGreatDoor
open Go.RowKit Go.Shelf

/-- What both networks return. -/
def NetPost (p : Prg) (l : List Att) (w w' : World) (e : Ending) : Prop :=
  ((netE p l ≠ 0 ∧ e = .returned (.tuple #[.int .i64 0, .slice none 0 0, .int .i64 (netE p l)])) ∨
   (netE p l = 0 ∧ ∃ v, e = .returned (.tuple #[.int .i64 (2 + l.length + p.reqs.length), v, .int .i64 0]) ∧ OwnF Edge.enc 3 85 w.heap.size w' v (netL p l))) ∧ Below w.heap.size w w'

theorem degree_Network_c (w : World) (p : Prg) (l : List Att) (A Aq : Option Addr) (c cq : Nat) (hl : Rd kAtt w A l) (hq : Rd kReq w Aq p.reqs) (hm : l.length ≤ 100000) :
    Calls Tryz.prog 18 #[.agg #[.string p.nm, .int .i64 p.num, .int .i64 p.uses, .int .i64 p.earn, .int .i64 p.mn, .int .i64 p.md, .slice Aq p.reqs.length cq], .slice A l.length c] w fun e w' => NetPost p l w w' e := by
  by_cases h : netE p l = 0
  · exact (degree_Network_good w p l A Aq c cq hl hq hm h).mono fun e w' ⟨v, h1, h2, h3⟩ => ⟨.inr ⟨h, v, h1, h2⟩, h3⟩
  · exact (degree_Network_bad w p l A Aq c cq hl hq (by omega) h).mono fun e w' ⟨h1, h2⟩ => ⟨.inl ⟨h, h1⟩, h2⟩

set_option maxRecDepth 100000 in
set_option maxHeartbeats 16000000 in
theorem ref19_Network_bad (w : World) (p : Prg) (l : List Att) (A Aq : Option Addr) (c cq : Nat) (hl : Rd kAtt w A l) (hq : Rd kReq w Aq p.reqs) (hm : l.length ≤ 100000) (hE : netE p l ≠ 0) :
    Calls Tryz.prog 19 #[.agg #[.string p.nm, .int .i64 p.num, .int .i64 p.uses, .int .i64 p.earn, .int .i64 p.mn, .int .i64 p.md, .slice Aq p.reqs.length cq], .slice A l.length c] w fun e w' => e = .returned (.tuple #[.int .i64 0, .slice none 0 0, .int .i64 (netE p l)]) ∧ Below w.heap.size w w' := by
  have hck := fun W (hW : Below w.heap.size w W) => ref19_Check_c W p Aq cq (hq.below hW)
  have hsm := fun W (hW : Below w.heap.size w W) => ref15_Sums_c W A c l (hl.below hW) (by omega)
  have hll := hl.len
  have hE0 : netE p l = if prgE p = 0 then attsE l else 190 := rfl
  by_cases h0 : prgE p = 0
  · have h1 : attsE l ≠ 0 := by rw [hE0, if_pos h0] at hE; exact hE
    have h2 : l.all attOk = false := by unfold attsE at h1; cases h3 : l.all attOk with | true => rw [h3] at h1; exact absurd rfl h1 | false => rfl
    have h3 : Hid (netE p l = 150) := by show _ = _; rw [hE0, if_pos h0, attsE, h2]; rfl
    rw [h0] at hck
    rw [h2] at hsm
    clear hE hE0 h0 h1 h2 hl hq
    obtain ⟨pnm, pnum, puses, pearn, pmn, pmd, qs⟩ := p
    dsimp only at *
    go_enter Tryz.func19, Tryz.ntmps19
    go_wp2_with (first
      | (go_at_call 14; refine (hck _ (below1 _ _)).mono ?_; rintro e w1 ⟨rfl, hb1⟩; have hB1 := bthen (below1 w _) hb1)
      | (go_at_call 44; refine (hsm _ hB1).mono ?_; rintro e w2 ⟨rfl, hb2⟩))
    exact bodyPost_ret (v := .tuple #[.int .i64 0, .slice none 0 0, .int .i64 150]) (by simp [results, Tryz.results19, go_sem]) rfl ⟨by rw [h3.out], bthen hB1 hb2⟩
  · have h3 : Hid (netE p l = 190) := by show _ = _; rw [hE0, if_neg h0]
    have h4 : prgE p = 190 := by unfold prgE at h0 ⊢; split <;> simp_all
    rw [h4] at hck
    clear hE hE0 h0 h4 hsm hl hq
    obtain ⟨pnm, pnum, puses, pearn, pmn, pmd, qs⟩ := p
    dsimp only at *
    go_enter Tryz.func19, Tryz.ntmps19
    go_wp2_with (go_at_call 14; refine (hck _ (below1 _ _)).mono ?_; rintro e w1 ⟨rfl, hb1⟩; have hB1 := bthen (below1 w _) hb1)
    exact bodyPost_ret (v := .tuple #[.int .i64 0, .slice none 0 0, .int .i64 190]) (by simp [results, Tryz.results19, go_sem]) rfl ⟨by rw [h3.out], hB1⟩

set_option maxRecDepth 100000 in
set_option maxHeartbeats 16000000 in
theorem ref19_Network_good (w : World) (p : Prg) (l : List Att) (A Aq : Option Addr) (c cq : Nat) (hl : Rd kAtt w A l) (hq : Rd kReq w Aq p.reqs) (hm : l.length ≤ 100000) (hE : netE p l = 0) :
    Calls Tryz.prog 19 #[.agg #[.string p.nm, .int .i64 p.num, .int .i64 p.uses, .int .i64 p.earn, .int .i64 p.mn, .int .i64 p.md, .slice Aq p.reqs.length cq], .slice A l.length c] w fun e w' => ∃ v, e = .returned (.tuple #[.int .i64 (2 + l.length + p.reqs.length), v, .int .i64 0]) ∧ OwnF Edge.enc 3 85 w.heap.size w' v (netL p l) ∧ Below w.heap.size w w' := by
  have hck := fun W (hW : Below w.heap.size w W) => ref19_Check_c W p Aq cq (hq.below hW)
  have hsm := fun W (hW : Below w.heap.size w W) => ref15_Sums_c W A c l (hl.below hW) (by omega)
  obtain ⟨hp0, hall⟩ := netE_ok hE
  obtain ⟨hu1, hu2, hr64, hqcr⟩ := prg_ok hp0
  have hpl := pairsL_le p.reqs l
  have hel := fun W (hW : Below w.heap.size w W) a => ref19_Eligible_c W p a Aq cq (hq.below hW) (by omega)
  rw [hp0] at hck
  rw [hall] at hsm
  clear hE hp0
  obtain ⟨pnm, pnum, puses, pearn, pmn, pmd, qs⟩ := p
  dsimp only at *
  have HL : Hid (netL ⟨pnm, pnum, puses, pearn, pmn, pmd, qs⟩ l = upTo (edgeA puses l) l.length ++ (pairsL qs l).map (edgeP l) ++ upTo (edgeR l.length qs) qs.length) := rfl
  go_enter Tryz.func19, Tryz.ntmps19
  go_wp2_with fail
  refine (hck _ (below1 _ _)).mono ?_
  rintro e w1 ⟨rfl, hb1⟩
  have hp1 : ∀ j : Nat, w1.cell? ⟨w.heap.size, j, none⟩ = #[.string pnm, .int .i64 pnum, .int .i64 puses, .int .i64 pearn, .int .i64 pmn, .int .i64 pmd, .slice Aq qs.length cq][j]? := fun j => ((bcell hb1).1 _ _ (by simp)).trans (blk_cell (alloc1_blk w _) j)
  have hB1 := bthen (below1 w _) hb1
  have hz1 : w.heap.size < w1.heap.size := by have := hb1.size; simp at this; omega
  clear hb1 hck
  go_wp2_with fail
  refine (hsm _ hB1).mono ?_
  rintro e w2 ⟨rfl, hb2⟩
  have hp2 : ∀ j : Nat, w2.cell? ⟨w.heap.size, j, none⟩ = _ := fun j => ((bcell hb2).1 _ _ hz1).trans (hp1 j)
  have hB2 := bthen hB1 hb2
  have hz2 : w.heap.size < w2.heap.size := by have := hb2.size; omega
  clear hp1 hB1 hz1 hb2 hsm
  go_wp2_with fail
  have hz4 := World.size_alloc w2 (.cells #[] 85)
  have hp4 : ∀ j : Nat, (w2.alloc (.cells #[] 85)).cell? ⟨w.heap.size, j, none⟩ = _ := fun j => (World.cell?_alloc_past _ _ _ hz2).trans (hp2 j)
  have hB4 := bthen hB2 (below1 w2 (.cells #[] 85))
  have hown4 : OwnF Edge.enc 3 85 (w.heap.size + 1) (w2.alloc (.cells #[] 85)) _ [] := OwnF.made Edge.enc 85 (by omega)
  generalize w2.alloc (.cells #[] 85) = W4 at *
  have hz40 : w.heap.size < W4.heap.size := by omega
  clear hp2 hB2 hz2
  go_loopw [10, 11] (fun v i wr => ∃ (k : Nat) (B : Option Addr) (cB : Nat), k ≤ l.length ∧ i = .int .i64 k ∧ v = .slice B (upTo (edgeA puses l) k).length cB ∧ OwnF Edge.enc 3 85 (w.heap.size + 1) wr (.slice B (upTo (edgeA puses l) k).length cB) (upTo (edgeA puses l) k) ∧ Below (w.heap.size + 1) W4 wr) (fun _ i _ => l.length - (intOf i).toNat)
  case atStart => exact ⟨0, _, _, Nat.zero_le _, rfl, rfl, hown4, Below.refl _ _⟩
  case round =>
    obtain ⟨k, B, cB, hk, rfl, rfl, hown, hX⟩ := hrel
    have hpr : ∀ j : Nat, wr.cell? ⟨w.heap.size, j, none⟩ = _ := fun j => (hX.cell (p := ⟨w.heap.size, j, none⟩) (by simp)).trans (hp4 j)
    have hsr := hX.size
    have hBr : Below w.heap.size w wr := hB4.trans (hX.mono (by omega))
    by_cases hlt : k < l.length
    · obtain ⟨x, b, off, hx, rfl, hb, f0, f1, f2, f3, f4⟩ := kAtt_get (hl.below hBr) hlt
      obtain ⟨_, _, g3, g4, _, _⟩ := attOk_bd (List.all_eq_true.1 hall x (List.mem_of_getElem? hx.out))
      have hmul : wrap64 (x.cr * puses) = x.cr * puses := by
        have h1 : x.cr * puses ≤ 60 * 4 := Int.mul_le_mul g4 hu2 (by omega) (by omega)
        have h2 : 0 ≤ x.cr * puses := Int.mul_nonneg g3 (by omega)
        unfold wrap64; omega
      have hts : Hid (upTo (edgeA puses l) (k + 1) = upTo (edgeA puses l) k ++ [⟨0, 1 + k, x.cr * puses⟩]) := by show _ = _; rw [upTo, edgeA_at hx.out]
      have hle := upTo_len1 (edgeA_le puses l) k
      have hp20 : wr.cell? ⟨w.heap.size, 2, none⟩ = some (.int .i64 puses) := hpr 2
      clear hl hq hp4 HL hqcr hall hpl hel hown4 hpr f0 f1 f2 f3
      generalize upTo (edgeA puses l) k = es at *
      go_wp2_with fail
      have hwr1 : IntKind.i64.wrap (1 + (k : Int)) = 1 + k := by simp [IntKind.wrap, IntKind.bits, IntKind.signed]; omega
      have hwr2 : IntKind.i64.wrap (x.cr * puses) = x.cr * puses := by rw [IntKind.wrap_i64]; have := hmul; unfold wrap64 at this; exact this
      refine wp_held_tail 12 (fun w' => w'.cell? ⟨b, off + k * 5 + 4, none⟩ = some (.int .i64 x.cr) ∧ w'.cell? ⟨w.heap.size, 2, none⟩ = some (.int .i64 puses)) (fun d _ _ _ _ h => by cases d <;> exact h) (by kernel_rfl) (by kernel_rfl) ⟨f4, hp20⟩ ?_
      simp only [List.take_succ_cons, List.take_zero, List.drop_succ_cons, List.drop_zero]
      iterate 12
        refine held_cons (v := ?_) (by rfl) ?hy ?_
        case hy => (rintro w' ⟨s1, s2⟩; go_simp; try with_reducible rfl)
        simp only [Act.put, List.setIfInBounds_toArray, List.set_cons_zero, List.set_cons_succ]
      refine held_last (w' := (wr.alloc (.cells #[.int .i64 0, .int .i64 (1 + k), .int .i64 (x.cr * puses)] 85)).drew) (v := .slice (some ⟨wr.heap.size, 0, none⟩) 1 1) rfl (by rfl) ?r1 ?r2 ?_
      case r1 => go_simp
      case r2 => exact ⟨(World.cell?_alloc_past (w := wr) _ _ _ (by omega)).trans f4, (World.cell?_alloc_past (w := wr) _ _ _ (by omega)).trans hp20⟩
      have h3d : OwnF Edge.enc 3 85 (w.heap.size + 1) wr.drew (.slice B es.length cB) es := hown.below (Below.refl _ wr).drew
      go_wp2_with (at_builtin; refine stopHere ?_)
      unfold Stopped
      refine wpList_append1 rfl _ _ 38 rfl 85 (.agg #[.int .i64 0, .int .i64 0, .int .i64 0]) 24 Tryz.underlying38 edge_info rfl (by decide) edge_len edge_one (w.heap.size + 1) _ es rfl (h3d.alloc _) _ (⟨0, 1 + k, x.cr * puses⟩) rfl ?c2 ?c3 (by decide) ?c4 ?_
      case c2 => intro j u hj; simpa [Edge.enc] using hj
      case c3 => omega
      case c4 => simp <;> omega
      rintro v' w6 hown' hsz6 hB6 hg6 ⟨A6, c6, rfl⟩
      have hb6 := hB6 (w.heap.size + 1) _ (Nat.le_refl _) (Below.refl _ _)
      go_wp2
      go_roundw
      case rel => exact ⟨k + 1, A6, c6, by omega, by go_num, by rw [hts.out]; simp, by rw [hts.out, List.length_append]; exact hown', (hX.trans (((below1 wr _).mono (by omega)).drew)).trans hb6⟩
      case measure => simp [intOf]; omega
    · obtain rfl : k = l.length := by omega
      go_wp2_with fail
      obtain ⟨es0, hes0⟩ : ∃ es0, es0 = upTo (edgeA puses l) l.length := ⟨_, rfl⟩
      have hle0 : es0.length ≤ l.length := by rw [hes0]; exact upTo_len1 (edgeA_le puses l) l.length
      rw [← hes0] at hown HL ⊢
      clear hes0 hown4
      have hlp : l.length * qs.length ≤ 100000 * 64 := Nat.mul_le_mul hm hr64
      rename_i wr0
      go_loopw [10, 12, 13, 14] (fun v i _ _ wr => ∃ (k : Nat) (B : Option Addr) (cB : Nat), k ≤ l.length ∧ i = .int .i64 k ∧ v = .slice B (es0 ++ (upTo (pairsF qs l) k).map (edgeP l)).length cB ∧ OwnF Edge.enc 3 85 (w.heap.size + 1) wr (.slice B (es0 ++ (upTo (pairsF qs l) k).map (edgeP l)).length cB) (es0 ++ (upTo (pairsF qs l) k).map (edgeP l)) ∧ Below (w.heap.size + 1) W4 wr) (fun _ i _ _ _ => l.length - (intOf i).toNat)
      case atStart => exact ⟨0, B, cB, Nat.zero_le _, rfl, by simp [upTo], by simpa [upTo] using hown, hX⟩
      case round =>
        obtain ⟨k, B, cB, hk, rfl, rfl, hown, hX⟩ := hrel
        obtain ⟨wo, rfl⟩ : ∃ wo : World, wo = wr := ⟨_, rfl⟩
        have hpr : ∀ j : Nat, wo.cell? ⟨w.heap.size, j, none⟩ = _ := fun j => (hX.cell (p := ⟨w.heap.size, j, none⟩) (by simp)).trans (hp4 j)
        have hsr := hX.size
        have hBr : Below w.heap.size w wo := hB4.trans (hX.mono (by omega))
        by_cases hlt : k < l.length
        · obtain ⟨x, b, off, hx, rfl, hb, f0, f1, f2, f3, f4⟩ := kAtt_get (hl.below hBr) hlt
          have hfk : Hid (upTo (pairsF qs l) (k + 1) = upTo (pairsF qs l) k ++ (eligL qs x).map fun q => (k, q)) := by show _ = _; rw [upTo, pairsF_at hx.out]
          have hfa := pairsF_at (qs := qs) hx.out
          have helx := fun W hW => hel W hW x
          clear hel
          go_wp2_with fail
          go_still_tail 5, (by kernel_rfl)
          change wpList _ _ _ _ _ wo.drew
          go_wp2_with fail
          refine (helx _ (hBr.trans ((below_drewN2 _ wo 1))) ).mono ?_
          rintro e w5 ⟨v5, rfl, hown5, hb5⟩
          obtain ⟨B5, c5, rfl, hc5, hr5⟩ := hown5.rd encI_len
          have hl5 := hr5.len
          obtain ⟨m, hmm⟩ : ∃ m, (eligL qs x).length = m := ⟨_, rfl⟩
          have hm64 : m ≤ 64 := by have := eligL_le qs x; omega
          have hle5 : ((upTo (pairsF qs l) k).map (edgeP l)).length ≤ 6400000 := by
            have := upTo_mono (pairsF qs l) (show k ≤ l.length by omega)
            rw [List.length_map]; have h3 : (upTo (pairsF qs l) l.length).length = (pairsL qs l).length := rfl
            omega
          have hb5' : Below wo.heap.size wo w5 := ⟨hb5.os, hb5.tape, hb5.output, hb5.size, hb5.block⟩
          have hown1 := hown.below hb5'
          have hX1 : Below (w.heap.size + 1) W4 w5 := hX.trans (hb5'.mono (by omega))
          have hz5 := hb5'.size
          rw [hmm] at hl5 ⊢
          clear hb5 hb5' hown helx hr5 f0 f1 f2 f3 f4 hb
          go_wp2_with fail
          obtain ⟨es1, hes1⟩ : ∃ es1, es1 = es0 ++ (upTo (pairsF qs l) k).map (edgeP l) := ⟨_, rfl⟩
          have hle1 : es1.length ≤ 6500000 := by rw [hes1, List.length_append]; omega
          rw [← hes1] at hown1
          go_loopw [10, 14] (fun v t wr => ∃ (j : Nat) (B : Option Addr) (cB : Nat), j ≤ m ∧ t = .int .i64 j ∧ v = .slice B (es1 ++ (((eligL qs x).take j).map fun q => edgeP l (k, q))).length cB ∧ OwnF Edge.enc 3 85 (w.heap.size + 1) wr (.slice B (es1 ++ (((eligL qs x).take j).map fun q => edgeP l (k, q))).length cB) (es1 ++ (((eligL qs x).take j).map fun q => edgeP l (k, q))) ∧ Below (w.heap.size + 1) W4 wr ∧ KeepT [3] wo.heap.size w5 wr) (fun _ t _ => m - (intOf t).toNat)
          case atStart => exact ⟨0, B, cB, Nat.zero_le _, rfl, by simp [hes1], by simpa using hown1, hX1, KeepT.refl _ _ _⟩
          case round =>
            obtain ⟨j, B2, cB2, hj, rfl, rfl, hown, hX, hkt⟩ := hrel
            have hsr2 := hX.size
            have hBr2 : Below w.heap.size w wr := hB4.trans (hX.mono (by omega))
            by_cases hjm : j < m
            · have hrB : Rd kI wr B5 (eligL qs x) := by
                obtain ⟨B', c', e, _, h⟩ := (OwnF.keepT hown5 hkt (by simp) (Nat.le_refl _)).rd encI_len
                injection e with e1 _ _; rw [e1]; exact h
              obtain ⟨q, bq, oq, hq1, rfl, hbq, fq⟩ := kI_get hrB (k := j) (by omega)
              obtain ⟨y, b, off, hy, hA2, hb, _, _, _, _, f4⟩ := kAtt_get (hl.below hBr2) hlt
              cases hA2
              have hyx : y = x := Option.some.inj (hy.out.symm.trans hx.out)
              subst hyx
              have hin : (k, q) ∈ pairsL qs l := List.mem_of_getElem? (i := (upTo (pairsF qs l) k).length + j) (upTo_get hlt (by rw [hfa, List.getElem?_map, hq1.out]; rfl))
              obtain ⟨_, hk0, hk1⟩ := pairsL_mem hin
              have hed : edgeP l (k, q) = ⟨1 + k, 1 + l.length + q, y.cr⟩ := by simp [edgeP, hx.out]
              have hts : Hid (es1 ++ (((eligL qs y).take (j + 1)).map fun q => edgeP l (k, q)) = es1 ++ (((eligL qs y).take j).map fun q => edgeP l (k, q)) ++ [⟨1 + k, 1 + l.length + q, y.cr⟩]) := by show _ = _; rw [take_snoc_get hq1.out, List.map_append, List.map_singleton, hed, List.append_assoc]
              have hle2 : (es1 ++ (((eligL qs y).take j).map fun q => edgeP l (k, q))).length ≤ 6600000 := by rw [List.length_append, List.length_map, List.length_take]; omega
              clear hl hq hp4 HL hqcr hall hpl hpr hy hx hfk hfa hin hed hq1 hrB hown1 hown5 hes1
              generalize es1 ++ (((eligL qs y).take j).map fun q => edgeP l (k, q)) = es at *
              go_wp2_with fail
              have hwr1 : IntKind.i64.wrap (1 + (k : Int)) = 1 + k := by simp [IntKind.wrap, IntKind.bits, IntKind.signed]; omega
              have hwr2 : IntKind.i64.wrap (1 + (l.length : Int)) = 1 + l.length := by simp [IntKind.wrap, IntKind.bits, IntKind.signed]; omega
              have hwr3 : IntKind.i64.wrap (1 + (l.length : Int) + q) = 1 + l.length + q := by simp [IntKind.wrap, IntKind.bits, IntKind.signed]; omega
              have hi1 : (0 : Int) ≤ j := by omega
              have hi2 : (j : Int) < m := by omega
              have hi3 : (0 : Int) ≤ k := by omega
              have hi4 : (k : Int) < l.length := by omega
              refine wp_held_tail 16 (fun w' => w'.cell? ⟨b, off + k * 5 + 4, none⟩ = some (.int .i64 y.cr) ∧ w'.cell? ⟨bq, oq + j, none⟩ = some (.int .i64 q)) (fun d _ _ _ _ h => by cases d <;> exact h) (by kernel_rfl) (by kernel_rfl) ⟨f4, fq⟩ ?_
              simp only [List.take_succ_cons, List.take_zero, List.drop_succ_cons, List.drop_zero]
              iterate 16
                refine held_cons (v := ?_) (by rfl) ?hy ?_
                case hy => (rintro w' ⟨s1, s2⟩; go_simp; try with_reducible rfl)
                simp only [Act.put, List.setIfInBounds_toArray, List.set_cons_zero, List.set_cons_succ]
              refine held_last (w' := (wr.alloc (.cells #[.int .i64 (1 + k), .int .i64 (1 + l.length + q), .int .i64 y.cr] 85)).drew) (v := .slice (some ⟨wr.heap.size, 0, none⟩) 1 1) rfl (by rfl) ?r1 ?r2 ?_
              case r1 => go_simp
              case r2 => exact ⟨(World.cell?_alloc_past (w := wr) _ _ _ (by omega)).trans f4, (World.cell?_alloc_past (w := wr) _ _ _ (by omega)).trans fq⟩
              have h3d : OwnF Edge.enc 3 85 (w.heap.size + 1) wr.drew (.slice B2 es.length cB2) es := hown.below (Below.refl _ wr).drew
              go_wp2_with (at_builtin; refine stopHere ?_)
              unfold Stopped
              refine wpList_append1 rfl _ _ 38 rfl 85 (.agg #[.int .i64 0, .int .i64 0, .int .i64 0]) 24 Tryz.underlying38 edge_info rfl (by decide) edge_len edge_one (w.heap.size + 1) _ es rfl (h3d.alloc _) _ (⟨1 + k, 1 + l.length + q, y.cr⟩) rfl ?c2 ?c3 (by decide) ?c4 ?_
              case c2 => intro j u hj; simpa [Edge.enc] using hj
              case c3 => omega
              case c4 => simp <;> omega
              rintro v' w6 hown' hsz6 hB6 hg6 ⟨A6, c6, rfl⟩
              have hb6 := hB6 (w.heap.size + 1) _ (Nat.le_refl _) (Below.refl _ _)
              go_wp2
              go_roundw
              case rel => exact ⟨j + 1, A6, c6, by omega, by go_num, by rw [hts.out]; simp, by rw [hts.out, List.length_append]; exact hown', (hX.trans (((below1 wr _).mono (by omega)).drew)).trans hb6, hkt.trans ((((KeepT.refl _ _ wr).alloc _).drew).trans (KeepT.grownF (h3d.alloc _) hg6 (by decide)))⟩
              case measure => simp [intOf]; omega
            · obtain rfl : j = m := by omega
              have hte : Hid (es0 ++ (upTo (pairsF qs l) (k + 1)).map (edgeP l) = es1 ++ (((eligL qs x).take j).map fun q => edgeP l (k, q))) := by
                show _ = _
                rw [hfk.out, List.map_append, List.map_map, ← List.append_assoc, ← hes1, List.take_of_length_le (by omega)]; rfl
              rw [← hte.out] at hown
              clear hes1 hown1 hown5 hfk hfa
              go_wp2
              go_roundw
              case rel => exact ⟨k + 1, B2, cB2, by omega, by go_num, by rw [hte.out], hown, hX⟩
              case measure => simp [intOf]; omega
        · obtain rfl : k = l.length := by omega
          go_wp2_with fail
          obtain ⟨es2, hes2⟩ : ∃ es2, es2 = es0 ++ (pairsL qs l).map (edgeP l) := ⟨_, rfl⟩
          have hle2 : es2.length ≤ 6500000 := by rw [hes2, List.length_append, List.length_map]; omega
          have hes4 : (es0 ++ (upTo (pairsF qs l) l.length).map (edgeP l)).length = es2.length := by rw [hes2]; rfl
          have hes3 : es0 ++ (upTo (pairsF qs l) l.length).map (edgeP l) = es2 := hes2.symm
          have hlen2 : es0.length + (upTo (pairsF qs l) l.length).length = es2.length := by rw [hes2, List.length_append, List.length_map]; rfl
          rw [← hes2] at HL
          rw [hes3] at hown
          clear hes2 hes3 hel hl hpl
          go_loopw [10, 15] (fun v i wr => ∃ (k : Nat) (B : Option Addr) (cB : Nat), k ≤ qs.length ∧ i = .int .i64 k ∧ v = .slice B (es2 ++ upTo (edgeR l.length qs) k).length cB ∧ OwnF Edge.enc 3 85 (w.heap.size + 1) wr (.slice B (es2 ++ upTo (edgeR l.length qs) k).length cB) (es2 ++ upTo (edgeR l.length qs) k) ∧ Below (w.heap.size + 1) W4 wr) (fun _ i _ => qs.length - (intOf i).toNat)
          case atStart => exact ⟨0, B, cB, Nat.zero_le _, rfl, by rw [hes4]; simp [upTo], by simpa [upTo] using hown, hX⟩
          case round =>
            obtain ⟨k, B2, cB2, hk, rfl, rfl, hown, hX⟩ := hrel
            have hpr : ∀ j : Nat, wr.cell? ⟨w.heap.size, j, none⟩ = _ := fun j => (hX.cell (p := ⟨w.heap.size, j, none⟩) (by simp)).trans (hp4 j)
            have hsr := hX.size
            have hBr : Below w.heap.size w wr := hB4.trans (hX.mono (by omega))
            have hle3 := upTo_len1 (edgeR_le l.length qs) k
            by_cases hlt : k < qs.length
            · obtain ⟨x, b, off, B9, c9, hx, rfl, hb, hlc, hrB, f0, f1, f2, f3, f4, f5⟩ := kReq_get (hq.below hBr) hlt
              have hts : Hid (es2 ++ upTo (edgeR l.length qs) (k + 1) = es2 ++ upTo (edgeR l.length qs) k ++ [⟨1 + l.length + k, 1 + l.length + qs.length, x.cr⟩]) := by show _ = _; rw [upTo, ← List.append_assoc]; congr 1; simp [edgeR, hx.out]
              have hle4 : (es2 ++ upTo (edgeR l.length qs) k).length < 950000000 := by rw [List.length_append]; omega
              have hp5 : wr.cell? ⟨w.heap.size, 5, none⟩ = _ := hpr 5
              have hp6 : wr.cell? ⟨w.heap.size, 6, none⟩ = _ := hpr 6
              clear hq hp4 hqcr hall HL hlen2
              generalize es2 ++ upTo (edgeR l.length qs) k = fs at *
              go_wp2_with (at_builtin; refine stopHere ?_)
              unfold Stopped
              refine wpList_append1 rfl _ _ 38 rfl 85 (.agg #[.int .i64 0, .int .i64 0, .int .i64 0]) 24 Tryz.underlying38 edge_info rfl (by decide) edge_len edge_one (w.heap.size + 1) _ fs rfl (hown.alloc _) _ (⟨1 + l.length + k, 1 + l.length + qs.length, x.cr⟩) rfl ?c2 ?c3 (by decide) ?c4 ?_
              case c2 => intro j u hj; simpa [Edge.enc] using hj
              case c3 => omega
              case c4 => simp <;> omega
              rintro v' w6 hown' hsz6 hB6 hg6 ⟨A6, c6, rfl⟩
              have hb6 := hB6 (w.heap.size + 1) _ (Nat.le_refl _) (Below.refl _ _)
              go_wp2
              go_roundw
              case rel => exact ⟨k + 1, A6, c6, by omega, by go_num, by rw [hts.out]; simp, by rw [hts.out, List.length_append]; exact hown', (hX.trans ((below1 wr _).mono (by omega))).trans hb6⟩
              case measure => simp [intOf]; omega
            · obtain rfl : k = qs.length := by omega
              go_wp2_with fail
              exact bodyPost_ret (v := .tuple #[.int .i64 (2 + l.length + qs.length), .slice B2 (es2 ++ upTo (edgeR l.length qs) qs.length).length cB2, .int .i64 0]) (by simp [results, Tryz.results19, go_sem]) rfl ⟨_, rfl, by rw [HL.out]; exact hown.lower (Nat.le_succ _), hBr⟩

theorem ref19_Network_c (w : World) (p : Prg) (l : List Att) (A Aq : Option Addr) (c cq : Nat) (hl : Rd kAtt w A l) (hq : Rd kReq w Aq p.reqs) (hm : l.length ≤ 100000) :
    Calls Tryz.prog 19 #[.agg #[.string p.nm, .int .i64 p.num, .int .i64 p.uses, .int .i64 p.earn, .int .i64 p.mn, .int .i64 p.md, .slice Aq p.reqs.length cq], .slice A l.length c] w fun e w' => NetPost p l w w' e := by
  by_cases h : netE p l = 0
  · exact (ref19_Network_good w p l A Aq c cq hl hq hm h).mono fun e w' ⟨v, h1, h2, h3⟩ => ⟨.inr ⟨h, v, h1, h2⟩, h3⟩
  · exact (ref19_Network_bad w p l A Aq c cq hl hq (by omega) h).mono fun e w' ⟨h1, h2⟩ => ⟨.inl ⟨h, h1⟩, h2⟩
end Go.Proofs.YtaiibchadlaifaaGreatDoor
