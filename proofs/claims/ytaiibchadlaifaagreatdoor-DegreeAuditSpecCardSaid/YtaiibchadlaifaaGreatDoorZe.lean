/-
  degree.Audit at a valid programme and valid attempts. Conditions: the arguments read as data, at most 60 attempts.
  The reference's Assignment. Conditions: the arguments read as data, the credits are within their bounds.
-/
import Derived.Test.YtaiibchadlaifaaGreatDoorZd
set_option linter.unusedVariables false
set_option linter.unusedSimpArgs false

namespace Go.Proofs.YtaiibchadlaifaaGreatDoor
open Go.RowKit Go.Shelf
attribute [local go_sem] Oper.semAt_some

theorem use_len (x : Use) : x.enc.length = 3 := rfl
theorem use_one (x : Use) : ∀ u ∈ x.enc, u.oneCell' = true := by
  intro u hu
  simp only [Use.enc, List.mem_cons, List.not_mem_nil, or_false] at hu
  rcases hu with rfl | rfl | rfl <;> rfl
theorem use_info : (Tryz.prog.info? 95).map (fun i => (i.zero, i.size, i.bytes)) = some (some (.agg #[.int .i64 0, .int .i64 0, .int .i64 0]), 3, 24) := by kernel_rfl

/-- What Audit returns at a valid programme and valid attempts. -/
def AuditPost (p : Prg) (l : List Att) (w w' : World) (e : Ending) : Prop :=
  ∃ (F bys : List Int) (uv : Value) (cb : Nat), MaxSpec (2 + l.length + p.reqs.length) 0 ((1 + l.length + p.reqs.length : Nat) : Int) (netL p l) F (cutOf bys) ∧ bys.length = 2 + l.length + p.reqs.length ∧
    e = .returned (.tuple #[.agg #[uv, .int .i64 (totalC p.reqs - usedC (usesL (pairsL p.reqs l) (F.drop l.length))), .slice (some ⟨cb, 0, none⟩) (2 + l.length + p.reqs.length) (2 + l.length + p.reqs.length)], .int .i64 0]) ∧
    OwnF Use.enc 3 95 w.heap.size w' uv (usesL (pairsL p.reqs l) (F.drop l.length)) ∧ w.heap.size ≤ cb ∧ w'.heap[cb]? = some (.cells ((bys.map fun x => Value.bool (decide (0 ≤ x))).toArray) 4 (0, 0)) ∧ Below w.heap.size w w'

set_option maxRecDepth 100000 in
set_option maxHeartbeats 16000000 in
theorem degree_Audit_good (w : World) (p : Prg) (l : List Att) (A Aq : Option Addr) (c cq : Nat) (hl : Rd kAtt w A l) (hq : Rd kReq w Aq p.reqs) (hm : l.length ≤ 60) (hE : netE p l = 0) :
    Calls Tryz.prog 21 #[.agg #[.string p.nm, .int .i64 p.num, .int .i64 p.uses, .int .i64 p.earn, .int .i64 p.mn, .int .i64 p.md, .slice Aq p.reqs.length cq], .slice A l.length c] w fun e w' => AuditPost p l w w' e := by
  have hnet := fun W (hW : Below w.heap.size w W) => degree_Network_good W p l A Aq c cq (hl.below hW) (hq.below hW) (by omega) hE
  have hmax := fun W A2 c2 h2 => max_good (2 + l.length + p.reqs.length) 0 (1 + l.length + p.reqs.length) (netL p l) A2 c2 W h2 (net_ends hE hm)
  have hlen := netL_len hE hm
  have hm30 : ∀ e, e ∈ netL p l → e.m ≤ 1073741824 := fun e q => by have := netL_ok hE e q; unfold edgeOk at this; simp at this; omega
  have hprs := fun W => pairs_c p A Aq l.length c cq W
  obtain ⟨hp0, hall⟩ := netE_ok hE
  obtain ⟨hu1, hu2, hr64, hqcr⟩ := prg_ok hp0
  have hpl3 := pairsL_le p.reqs l
  obtain ⟨ls, hls⟩ : ∃ ls : List { x : Nat × Int // x.1 < l.length ∧ 0 ≤ x.2 ∧ x.2 < p.reqs.length }, ls.map (·.1) = pairsL p.reqs l := exists_sub (fun x hx => pairsL_mem hx)
  have hst := fun (n : Nat) (hn : 2 ≤ n) (Bl Bp n₀ n₁ : Nat) W a1 a2 a3 a4 a5 a6 a7 a8 => pairs_stops n hn Bl Bp n₀ n₁ A Aq c cq l p (fun x : { x : Nat × Int // x.1 < l.length ∧ 0 ≤ x.2 ∧ x.2 < p.reqs.length } => x.1) ls hls W a1 a2 a3 a4 (by omega) a5 a6 a7 a8
  have hlenE : Hid ((netL p l).length = l.length + (pairsL p.reqs l).length + p.reqs.length) := by
    show _ = _
    unfold netL
    rw [List.length_append, List.length_append, edgeA_len, List.length_map]
    congr 1
    have : ∀ n, n ≤ p.reqs.length → (upTo (edgeR l.length p.reqs) n).length = n := by
      intro n
      induction n with
      | zero => intro _; rfl
      | succ n ih => intro h; rw [upTo, List.length_append, ih (by omega)]; unfold edgeR; rw [List.getElem?_eq_getElem (by omega)]; rfl
    exact this _ (Nat.le_refl _)
  unfold AuditPost
  obtain ⟨EL, hEL⟩ : ∃ EL, EL = netL p l := ⟨_, rfl⟩
  rw [← hEL] at hmax hlen hnet hlenE hm30 ⊢
  clear hE hp0 hEL
  obtain ⟨pnm, pnum, puses, pearn, pmn, pmd, qs⟩ := p
  dsimp only at *
  refine (callsIn_wide (n := 10)).1 ?_
  refine callsIn_of_wp_marks Tryz.func21 rfl trivial ?_ rfl
  simp only [Tryz.ntmps21, List.size_toArray, List.length_cons, List.length_nil, Nat.reduceAdd, Nat.reduceSub, Array.replicate_succ, Array.replicate_zero, List.push_toArray, List.append_toArray, List.nil_append, List.cons_append]
  gi_wp2_with fail
  refine ⟨trivial, ?_⟩
  refine (callsIn_wide.2 (hnet _ (below3 _ _ _ _))).mono ?_
  rintro e w1 ⟨v1, rfl, hown1, hb1⟩
  obtain ⟨A1, c1, rfl, hc1, hrd1⟩ := hown1.rd edge_len
  have hpb1 := (hb1.block w.heap.size (by rw [alloc3_size]; omega)).trans (alloc3_blk0 w _ _ _)
  have hab1 := (hb1.block (w.heap.size + 1) (by rw [alloc3_size]; omega)).trans (alloc3_blk1 w _ _ _)
  have heb1 := (hb1.block (w.heap.size + 1 + 1) (by rw [alloc3_size]; omega)).trans (alloc3_blk2 w _ _ _)
  have hB1 := bthen (below3 w _ _ _) hb1
  have hz1 := (Array.getElem?_eq_some_iff.1 heb1).1
  have ce1 : w1.cell? ⟨w.heap.size + 1 + 1, 0, none⟩ = some (.int .i64 0) := by rw [blk_cell heb1]; rfl
  have fe1 := blk_frozen heb1 0
  have hown2 := hown1.kept (w' := w1.setCell ⟨w.heap.size + 1 + 1, 0, none⟩ (.int .i64 0)) (fun b cur f _ hb => (Below.heap_setCell w1 ⟨w.heap.size + 1 + 1, 0, none⟩ _ b (by
    rintro rfl
    have hb : w1.heap[w.heap.size + 1 + 1]? = _ := hb
    rw [heb1] at hb; injection hb with hb; injection hb with _ hb _; cases hb)).trans hb)
  obtain ⟨A2, c2, hv2, _, hrd2⟩ := hown2.rd edge_len
  injection hv2 with hA2 _ hc2
  subst hA2 hc2
  clear hb1 hnet hown1 hown2 hrd1
  gi_wp2_with (refine ⟨trivial, ?_⟩; gi_at_call 47; refine (callsIn_wide.2 (try_ok _)).mono ?_; rintro e w2 ⟨⟨v2, rfl⟩, rfl⟩)
  have hmx := hmax _ A1 c1 hrd2
  rw [show ((2 + l.length + qs.length : Nat) : Int) = 2 + l.length + qs.length by omega, show ((1 + l.length + qs.length : Nat) : Int) = 2 + l.length + qs.length - 1 by omega, show ((0 : Nat) : Int) = 0 from rfl] at hmx
  refine ⟨trivial, ?_⟩
  refine (callsIn_wide.2 hmx).mono ?_
  rintro e w3 ⟨FB, cb, F, bys, rfl, gF, gcb, hFB, hcb, hbl, hspec, hb3⟩
  have hw2s : (w1.setCell ⟨w.heap.size + 1 + 1, 0, none⟩ (.int .i64 0)).heap.size = w1.heap.size := by show (w1.heap.modify _ _).size = _; rw [Array.size_modify]
  have hb2 : ∀ b, b < w1.heap.size → b ≠ w.heap.size + 1 + 1 → w3.heap[b]? = w1.heap[b]? := fun b hb hne => (hb3.block b (by omega)).trans (Below.heap_setCell w1 ⟨w.heap.size + 1 + 1, 0, none⟩ _ b hne)
  have hpb3 := (hb2 w.heap.size (by omega) (by omega)).trans hpb1
  have hab3 := (hb2 (w.heap.size + 1) (by omega) (by omega)).trans hab1
  have heb3 := (hb3.block (w.heap.size + 1 + 1) (by omega)).trans (heap_setCell_same w1 (w.heap.size + 1 + 1) 0 _ _ (.int .i64 0) heb1)
  have hB3 : Below w.heap.size w w3 := Below.trans (hB1.setCell (p := ⟨w.heap.size + 1 + 1, 0, none⟩) (by simp; omega) (.int .i64 0)) (hb3.mono (by omega))
  have hFl := okF_len hspec.ok
  have ce3 : w3.cell? ⟨w.heap.size + 1 + 1, 0, none⟩ = some (.int .i64 0) := by rw [blk_cell heb3]; rfl
  have fe3 := blk_frozen heb3 0
  have hz3 := (Array.getElem?_eq_some_iff.1 heb3).1
  have hzF := (Array.getElem?_eq_some_iff.1 hFB).1
  have hzc := (Array.getElem?_eq_some_iff.1 hcb).1
  rw [hw2s] at gF gcb
  clear hb2 hb3 hmx hmax hrd2 hpb1 hab1 heb1 hB1 ce1 fe1 hw2s
  gi_upto_region 7 with (refine ⟨trivial, ?_⟩; gi_at_call 47; refine (callsIn_wide.2 (try_ok _)).mono ?_; rintro e w2 ⟨⟨v2, rfl⟩, rfl⟩)
  obtain ⟨cv, hcv⟩ : ∃ cv, cv = Value.slice (some ⟨cb, 0, none⟩) (2 + l.length + qs.length) (2 + l.length + qs.length) := ⟨_, rfl⟩
  rw [← hcv]
  obtain ⟨w4, hw4⟩ : ∃ w4, w4 = w3.setCell ⟨w.heap.size + 1 + 1, 0, none⟩ (.int .i64 0) := ⟨_, rfl⟩
  have hs4 : w4.heap.size = w3.heap.size := by rw [hw4]; show (w3.heap.modify _ _).size = _; rw [Array.size_modify]
  have h4 : ∀ b, b ≠ w.heap.size + 1 + 1 → w4.heap[b]? = w3.heap[b]? := fun b hne => by rw [hw4]; exact Below.heap_setCell w3 ⟨w.heap.size + 1 + 1, 0, none⟩ _ b hne
  have he4 : w4.heap[w.heap.size + 1 + 1]? = some (.cells #[.int .i64 0] 31 (0, 0)) := by rw [hw4]; exact heap_setCell_same w3 (w.heap.size + 1 + 1) 0 _ _ (.int .i64 0) heb3
  have hB4 : Below w.heap.size w w4 := by rw [hw4]; exact hB3.setCell (p := ⟨w.heap.size + 1 + 1, 0, none⟩) (by simp; omega) _
  rw [← hw4, ← hs4]
  have hb6 := below2 w4 (.cells #[.slice (some ⟨FB, 0, none⟩) EL.length EL.length] 34) (.cells #[.slice none 0 0, .int .i64 0, cv] 45)
  have hf6 := alloc2_blk0 w4 (.cells #[.slice (some ⟨FB, 0, none⟩) EL.length EL.length] 34) (.cells #[.slice none 0 0, .int .i64 0, cv] 45)
  have hx6 := alloc2_blk1 w4 (.cells #[.slice (some ⟨FB, 0, none⟩) EL.length EL.length] 34) (.cells #[.slice none 0 0, .int .i64 0, cv] 45)
  have hz6 := alloc2_size w4 (.cells #[.slice (some ⟨FB, 0, none⟩) EL.length EL.length] 34) (.cells #[.slice none 0 0, .int .i64 0, cv] 45)
  have hp6 := (hb6.block w.heap.size (by omega)).trans ((h4 _ (by omega)).trans hpb3)
  have ha6 := (hb6.block (w.heap.size + 1) (by omega)).trans ((h4 _ (by omega)).trans hab3)
  have he6 := (hb6.block (w.heap.size + 1 + 1) (by omega)).trans he4
  have hF6 := (hb6.block FB (by omega)).trans ((h4 _ (by omega)).trans hFB)
  have hc6 := (hb6.block cb (by omega)).trans ((h4 _ (by omega)).trans hcb)
  have hB6 := bthen hB4 hb6
  have hzF4 : FB < w4.heap.size := by omega
  have hzc4 : cb < w4.heap.size := by omega
  have hz4 : w.heap.size + 1 + 1 < w4.heap.size := by omega
  clear hb6 h4 he4 hB4 hw4 hs4 hpb3 hab3 heb3 hFB hcb hB3 ce3 fe3 hz3 hzF hzc
  have hCV : Hid (cv = _) := hcv
  clear hcv
  generalize (w4.alloc (.cells #[.slice (some ⟨FB, 0, none⟩) EL.length EL.length] 34)).alloc (.cells #[.slice none 0 0, .int .i64 0, cv] 45) = w6 at *
  generalize w4.heap.size = z at *
  have hz6b : z + 1 < w6.heap.size := by omega
  have hz6a : z < w6.heap.size := by omega
  clear hz6
  have hpc : ∀ j : Nat, w6.cell? ⟨w.heap.size, j, none⟩ = _ := fun j => blk_cell hp6 j
  have hzp : w.heap.size < w6.heap.size := by omega
  gi_wp2_with fail
  gi_loopw [43] (fun i wr => ∃ k : Nat, k ≤ qs.length ∧ i = .int .i64 k ∧ wr.heap[z + 1]? = some (.cells #[.slice none 0 0, .int .i64 (totalC (qs.take k)), cv] 45 (0, 0)) ∧ BelowX w6.heap.size (z + 1) w6 wr) (fun i _ => qs.length - (intOf i).toNat)
  case atStart => exact ⟨0, Nat.zero_le _, rfl, hx6, BelowX.refl _ _ _⟩
  case round =>
    obtain ⟨k, hk, rfl, hxr, hX⟩ := hrel
    have hBr : Below w.heap.size w wr := hB6.trans (hX.below (by omega) (by omega))
    have hsX := hX.size
    have htot := totalC_bd (qs.take k) (fun q hq => hqcr q (List.mem_of_mem_take hq) |>.imp (by omega) id)
    have htl : (qs.take k).length ≤ k := List.length_take_le _ _
    by_cases hlt : k < qs.length
    · obtain ⟨q, b, off, B, cB, hqk, rfl, hb, hlc, hrB, f0, f1, f2, f3, f4, f5⟩ := kReq_get (hq.below hBr) hlt
      obtain ⟨q1, q2⟩ := hqcr q (List.mem_of_getElem? hqk.out)
      have hts : Hid (totalC (qs.take (k + 1)) = totalC (qs.take k) + q.cr) := by show _ = _; rw [take_snoc_get hqk.out, totalC_snoc]
      obtain ⟨T, hT⟩ : ∃ T, T = totalC (qs.take k) := ⟨_, rfl⟩
      rw [← hT] at hxr htot hts
      obtain ⟨ht0, ht1⟩ := htot
      have cx1 : wr.cell? ⟨z + 1, 1, none⟩ = some (.int .i64 T) := by rw [blk_cell hxr]; rfl
      have fx1 := blk_frozen hxr 1
      have hxz := (Array.getElem?_eq_some_iff.1 hxr).1
      have hset0 := heap_setCell_same wr (z + 1) 1 _ _ (.int .i64 (T + q.cr)) hxr
      have hset := (Below.heap_alloc _ (.cells #[.string q.nm, .int .i64 q.cr, .int .i64 q.gr, .bool q.home, .slice q.nA q.nn q.nc, .slice B q.fr.length cB] 75) _ (Array.getElem?_eq_some_iff.1 hset0).1).trans hset0
      have hXn : BelowX w6.heap.size (z + 1) w6 ((wr.setCell ⟨z + 1, 1, none⟩ (.int .i64 (T + q.cr))).alloc (.cells #[.string q.nm, .int .i64 q.cr, .int .i64 q.gr, .bool q.home, .slice q.nA q.nn q.nc, .slice B q.fr.length cB] 75)) := by
        have h3 : BelowX w6.heap.size (z + 1) w6 (wr.setCell ⟨z + 1, 1, none⟩ (.int .i64 (T + q.cr))) := hX.set (p := ⟨z + 1, 1, none⟩) (.inl rfl) _
        exact h3.alloc h3.size _
      have HS : Hid _ := hset
      clear hT hset hset0 hxr hst hprs hls hlenE hspec hqcr hq hl hp6 ha6 he6 hF6 hc6 hx6 hf6 hpc
      gi_wp2
      exact ⟨⟨k + 1, hlt, by simp, by rw [hts.out]; exact HS, hXn⟩, by simp [intOf]; omega⟩
    · obtain rfl : k = qs.length := by omega
      rw [List.take_length] at hxr htot
      have hpw : ∀ j : Nat, wr.cell? ⟨w.heap.size, j, none⟩ = _ := fun j => (hX.cell (p := ⟨w.heap.size, j, none⟩) (by simp; omega) (by simp; omega)).trans (hpc j)
      have hzr : w.heap.size < wr.heap.size := by omega
      have hxz := (Array.getElem?_eq_some_iff.1 hxr).1
      have hblk : ∀ b, b < w6.heap.size → b ≠ z + 1 → wr.heap[b]? = w6.heap[b]? := fun b h1 h2 => hX.block b h1 h2
      have hp8 := (hblk w.heap.size (by omega) (by omega)).trans hp6
      have ha8 := (hblk (w.heap.size + 1) (by omega) (by omega)).trans ha6
      have he8 := (hblk (w.heap.size + 1 + 1) (by omega) (by omega)).trans he6
      have hF8 := (hblk FB (by omega) (by omega)).trans hF6
      have hc8 := (hblk cb (by omega) (by omega)).trans hc6
      have hf8 := (hblk z (by omega) (by omega)).trans hf6
      clear hblk hX hp6 ha6 he6 hF6 hc6 hf6 hx6 hpc hB6
      gi_wp2_with fail
      refine ⟨trivial, ?_⟩
      have hy7 := World.alloc_heap_new wr (.cells #[.int .i64 l.length] 3)
      have hz7 := World.size_alloc wr (.cells #[.int .i64 l.length] 3)
      have hb7 := below1 wr (.cells #[.int .i64 l.length] 3)
      generalize wr.alloc (.cells #[.int .i64 l.length] 3) = w7 at *
      refine (callsIn_wide.2 (hprs w7)).mono ?_
      rintro e w8 ⟨rfl, hw8⟩
      have hb8 : Below w7.heap.size w7 w8 := by rw [hw8]; exact below2 _ _ _
      have hz8 : w8.heap.size = w7.heap.size + 1 + 1 := by rw [hw8]; simp
      have hcp8 : w8.heap[w7.heap.size]? = some (.cells #[.string pnm, .int .i64 pnum, .int .i64 puses, .int .i64 pearn, .int .i64 pmn, .int .i64 pmd, .slice Aq qs.length cq] 26 (0, 0)) := by rw [hw8]; exact alloc2_blk0 w7 _ _
      have hcl8 : w8.cell? ⟨w7.heap.size + 1, 0, none⟩ = some (.slice A l.length c) := by rw [hw8, blk_cell (alloc2_blk1 w7 _ _)]; rfl
      clear hw8
      generalize hyy : wr.heap.size = y0 at *
      have hkk : ∀ (b : Nat), b < y0 → w8.heap[b]? = wr.heap[b]? := fun b hb => (hb8.block b (by omega)).trans (hb7.block b (by omega))
      have hy8 := (hb8.block y0 (by omega)).trans hy7
      have hx9 := (hkk (z + 1) (by omega)).trans hxr
      have hp9 := (hkk w.heap.size (by omega)).trans hp8
      have ha9 := (hkk (w.heap.size + 1) (by omega)).trans ha8
      have he9 := (hkk (w.heap.size + 1 + 1) (by omega)).trans he8
      have hF9 := (hkk FB (by omega)).trans hF8
      have hc9 := (hkk cb (by omega)).trans hc8
      have hf9 := (hkk z (by omega)).trans hf8
      have hB8 : Below w.heap.size w w8 := Below.trans (hBr.trans (hb7.mono (by omega))) (hb8.mono (by omega))
      have hsq := hst 9 (by omega) (w7.heap.size + 1) w7.heap.size w.heap.size w7.heap.size w8 (by omega) (Nat.le_refl _) (by omega) (by omega) hcl8 hcp8 (hl.s.below hB8) (hq.s.below hB8)
      clear hkk hst hcl8 hcp8 hp8 ha8 he8 hF8 hc8 hf8 hxr hy7 hb7 hb8 hpw hBr hyy hprs
      have hz78 : y0 < w7.heap.size := by omega
      have hz88 : w7.heap.size + 1 < w8.heap.size := by omega
      have hlsl : ls.length = (pairsL qs l).length := by rw [← hls, List.length_map]
      clear hz7 hz8
      gi_wp2_with fail
      obtain ⟨G, hG⟩ : ∃ G, G = F.drop l.length := ⟨_, rfl⟩
      have hGl : G.length = EL.length - l.length := by rw [hG, List.length_drop, hFl]
      have hgl : ls.length ≤ G.length := by rw [hGl, hlenE.out, hlsl]; omega
      have hFb := okF_bound hspec.ok hm30
      obtain ⟨T, hT⟩ : ∃ T, T = totalC qs := ⟨_, rfl⟩
      rw [← hT] at hx9 htot
      obtain ⟨ht0, ht1⟩ := htot
      have ht2 : T ≤ 640000 := by omega
      have HT : Hid _ := hT
      clear hT
      refine wpIn_rangeFunc_ownG rfl (by omega) (gf := 82) (lb := #[.pointer (some ⟨w7.heap.size + 1, 0, none⟩), .pointer (some ⟨w7.heap.size, 0, none⟩)]) rfl trivial (enters_of Tryz.func82 (by kernel_rfl) rfl)
        hsq kp_t (kp_b (by omega)) (Below.refl _ _) (fun _ => rfl)
        (fun pre Wx => (∃ (B : Option Addr) (cB : Nat), Wx.heap[z + 1]? = some (.cells #[.slice B (usesL (pre.map (·.1)) G).length cB, .int .i64 (T - usedC (usesL (pre.map (·.1)) G)), cv] 45 (0, 0)) ∧ OwnF Use.enc 3 95 w8.heap.size Wx (.slice B (usesL (pre.map (·.1)) G).length cB) (usesL (pre.map (·.1)) G)) ∧ Wx.heap[y0]? = some (.cells #[.int .i64 ((l.length + pre.length : Nat) : Int)] 3 (0, 0)) ∧ (0 ≤ usedC (usesL (pre.map (·.1)) G) ∧ usedC (usesL (pre.map (·.1)) G) ≤ 1073741824 * pre.length) ∧ (∀ b, b < w8.heap.size → b ≠ z + 1 → b ≠ y0 → ∀ o : Obj, w8.heap[b]? = some o → o.isCells = true → Wx.heap[b]? = some o) ∧ Below w.heap.size w Wx ∧ w8.heap.size ≤ Wx.heap.size)
        (fun _ _ _ => False)
        (fun pre Wx W' row hI hg hr => ?own)
        (fun _ _ _ _ _ hs _ _ => hs)
        ⟨⟨none, 0, by simpa [usesL, usedC] using hx9, OwnF.nil _ _ _ _ _⟩, by simpa using hy8, by simp [usesL, usedC], fun b _ _ _ o ho _ => ho, hB8, Nat.le_refl _⟩
        ?a1 ?assign ?body ?done ?stop
      case own =>
        obtain ⟨⟨B, cB, h1, h2⟩, h3, h4, h5, h6, h7⟩ := hI
        have kc := KeepC.book hg fun r e => (hr r e).2
        exact ⟨⟨B, cB, kc _ _ _ _ h1, h2.book hg (fun r e => (hr r e).2)⟩, kc _ _ _ _ h3, h4, (fun b hb n1 n2 o ho hc => by
          have := h5 b hb n1 n2 o ho hc
          cases o <;> first | exact kc _ _ _ _ this | cases hc), h6.grown hg h6.size (fun r e => by have := (hr r e).1; have := hB8.size; omega), Nat.le_trans h7 hg.size⟩
      case assign =>
        intro l0 x Wx K hK
        gi_wp2
        exact hK
      case stop =>
        rintro D c pre Wx _ _ h _
        exact h.elim
      case body =>
        rintro l0 pre ⟨⟨xi, xk⟩, hxx⟩ Wx ⟨⟨B, cB, h1, h2⟩, h3, ⟨h4a, h4b⟩, h5, h6, h7⟩ hpl
        have hk0 : 0 ≤ xk := hxx.2.1
        have hk1 : xk < (qs.length : Int) := hxx.2.2
        have hx1 : xi < l.length := hxx.1
        obtain ⟨f, hgf⟩ : ∃ f, G[pre.length]? = some f := ⟨_, List.getElem?_eq_getElem (by omega)⟩
        have hff : F[l.length + pre.length]? = some f := by rw [hG, List.getElem?_drop] at hgf; exact hgf
        obtain ⟨hf0, hf1⟩ := hFb f (List.mem_of_getElem? hff)
        have hsn := usesL_snoc (ps := pre.map (·.1)) (G := G) (x := (xi, xk)) (f := f) (by simpa using hgf)
        have hmp : (pre ++ [(⟨(xi, xk), hxx⟩ : { x : Nat × Int // x.1 < l.length ∧ 0 ≤ x.2 ∧ x.2 < (qs.length : Int) })]).map (·.1) = pre.map (·.1) ++ [(xi, xk)] := by simp
        have hul := usesL_len (pre.map (·.1)) G
        rw [List.length_map] at hul
        have hpl6 : pre.length < 5000 := by omega
        have hpF : l.length + pre.length < EL.length := by rw [← hFl]; exact (List.getElem?_eq_some_iff.1 hff).1
        have HMP : Hid _ := hmp
        have HSN : Hid _ := hsn
        obtain ⟨us, hus⟩ : ∃ us, us = usesL (pre.map (·.1)) G := ⟨_, rfl⟩
        have HUS : Hid _ := hus
        rw [← hus] at h1 h2 h4a h4b hul
        have cy : Wx.cell? ⟨y0, 0, none⟩ = some (.int .i64 (l.length + pre.length)) := by rw [blk_cell h3]; simp
        have fy := blk_frozen h3 0
        have cx0 : Wx.cell? ⟨z + 1, 0, none⟩ = some (.slice B us.length cB) := by rw [blk_cell h1]; rfl
        have cx1 : Wx.cell? ⟨z + 1, 1, none⟩ = some (.int .i64 (T - usedC us)) := by rw [blk_cell h1]; rfl
        have fx0 := blk_frozen h1 0
        have fx1 := blk_frozen h1 1
        have cz : Wx.cell? ⟨z, 0, none⟩ = some (.slice (some ⟨FB, 0, none⟩) EL.length EL.length) := by rw [blk_cell (h5 z (by omega) (by omega) (by omega) _ hf9 rfl)]; rfl
        have cF : Wx.cell? ⟨FB, l.length + pre.length, none⟩ = some (.int .i64 f) := by rw [blk_cell (h5 FB (by omega) (by omega) (by omega) _ hF9 rfl)]; simp [hff]
        have HP : Hid (_ ∧ _ ∧ _) := ⟨hmp, hsn, hus⟩
        clear hus HMP HSN HUS hF9 hf9 hx9 hp9 ha9 he9 hc9 hy8 hsq hFb hls hlenE hspec hqcr hq hl hB8 hgf hff hsn hmp hGl hG hu1 hu2 hall hm30 hCV hm hr64 hpl3 hpl
        by_cases hfp : 0 < f
        · gi_wp2_with (gi_at_builtin; refine stopHere ?_)
          unfold Stopped
          refine wpListIn_append1 rfl _ _ 42 rfl 95 (.agg #[.int .i64 0, .int .i64 0, .int .i64 0]) 24 Tryz.underlying42 use_info rfl (by decide) use_len use_one w8.heap.size _ us rfl (h2.alloc _) _ (⟨xi, xk, f⟩) rfl ?c2 ?c3 (by decide) ?c4 ?_
          case c2 => intro j u hj; simpa [Use.enc] using hj
          case c3 => omega
          case c4 => simp <;> omega
          rintro v' w6' hown' hsz6 hB6' hg6 ⟨A6, c6, rfl⟩
          have hb6 := hB6' w8.heap.size _ (Nat.le_refl _) (Below.refl _ _)
          have hx6' := (hb6.block (z + 1) (by omega)).trans ((Below.heap_alloc Wx _ _ (by omega)).trans h1)
          have hy6' := (hb6.block y0 (by omega)).trans ((Below.heap_alloc Wx _ _ (by omega)).trans h3)
          have cx0' := blk_cell hx6' 0
          have cx1' := blk_cell hx6' 1
          have cy' := blk_cell hy6' 0
          have fx0' := blk_frozen hx6' 0
          have fx1' := blk_frozen hx6' 1
          have fy' := blk_frozen hy6' 0
          gi_wp2_with fail
          obtain ⟨hmp, hsn, hus⟩ := HP.out
          have hu9 : usesL ((pre ++ [(⟨(xi, xk), hxx⟩ : { x : Nat × Int // x.1 < l.length ∧ 0 ≤ x.2 ∧ x.2 < (qs.length : Int) })]).map (·.1)) G = us ++ [⟨xi, xk, f⟩] := by rw [hmp, hsn, ← hus, if_pos hfp]
          have huc : usedC (us ++ [⟨xi, xk, f⟩]) = usedC us + f := usedC_snoc _ _
          have hxA := heap_setCell_same w6' (z + 1) 0 _ _ (.slice A6 (us.length + 1) c6) hx6'
          have hxB := heap_setCell_same _ (z + 1) 1 _ _ (.int .i64 (T - usedC us - f)) hxA
          have hxC := (Below.heap_setCell _ ⟨y0, 0, none⟩ (.int .i64 (l.length + pre.length + 1)) (z + 1) (by simp; omega)).trans hxB
          have hyA := (Below.heap_setCell _ ⟨z + 1, 1, none⟩ (.int .i64 (T - usedC us - f)) y0 (by simp; omega)).trans ((Below.heap_setCell _ ⟨z + 1, 0, none⟩ (.slice A6 (us.length + 1) c6) y0 (by simp; omega)).trans hy6')
          have hyC := heap_setCell_same _ y0 0 _ _ (.int .i64 (l.length + pre.length + 1)) hyA
          refine ⟨KeepsOthers.from (((((KeepsOthers.alloc Wx _).trans (KeepsOthers.grown (h2.alloc _) hg6)).trans (KeepsOthers.setCell _ _ _)).trans (KeepsOthers.setCell _ _ _)).trans (KeepsOthers.setCell _ _ _)) _, ⟨?b1, ?t1⟩, ⟨⟨A6, c6, ?g1, ?g2⟩, ?g3, ?g4, ?g5, ?g6, ?g7⟩⟩
          case b1 => exact (((Below.trans ((below1 Wx _).mono (by omega)) (hb6.mono (by omega))).setCell (p := ⟨z + 1, 0, none⟩) (by simp <;> omega) _).setCell (p := ⟨z + 1, 1, none⟩) (by simp <;> omega) _).setCell (p := ⟨y0, 0, none⟩) (by simp <;> omega) _
          case t1 => exact (((KeepT.trans ((KeepT.refl _ _ Wx).alloc _) (KeepT.grownF (h2.alloc _) hg6 (by decide))).setCell (p := ⟨z + 1, 0, none⟩) (by simp <;> omega) _).setCell (p := ⟨z + 1, 1, none⟩) (by simp <;> omega) _).setCell (p := ⟨y0, 0, none⟩) (by simp <;> omega) _
          case g1 => rw [hxC, hu9, huc]; simp [List.setIfInBounds_toArray]; omega
          case g2 => rw [hu9, List.length_append]; exact ownsRow_setCell_below (ownsRow_setCell_below (ownsRow_setCell_below hown' (by simp <;> omega) _) (by simp <;> omega) _) (by simp <;> omega) _
          case g3 => rw [hyC]; simp; omega
          case g4 => rw [hu9, huc]; simp; omega
          case g5 =>
            intro b hb n1 n2 o ho hc
            rw [Below.heap_setCell _ ⟨y0, 0, none⟩ _ b n2, Below.heap_setCell _ ⟨z + 1, 1, none⟩ _ b n1, Below.heap_setCell _ ⟨z + 1, 0, none⟩ _ b n1, hb6.block b (by omega)]
            exact (Below.heap_alloc Wx _ _ (by omega)).trans (h5 b hb n1 n2 o ho hc)
          case g6 => exact (((h6.trans (Below.trans ((below1 Wx _).mono (by have := h6.size; omega)) (hb6.mono (by omega)))).setCell (p := ⟨z + 1, 0, none⟩) (by simp <;> omega) _).setCell (p := ⟨z + 1, 1, none⟩) (by simp <;> omega) _).setCell (p := ⟨y0, 0, none⟩) (by simp <;> omega) _
          case g7 => rw [World.size_alloc] at hsz6; simp only [World.setCell, Array.size_modify]; omega
        · gi_wp2_with fail
          obtain ⟨hmp, hsn, hus⟩ := HP.out
          have hu9 : usesL ((pre ++ [(⟨(xi, xk), hxx⟩ : { x : Nat × Int // x.1 < l.length ∧ 0 ≤ x.2 ∧ x.2 < (qs.length : Int) })]).map (·.1)) G = us := by rw [hmp, hsn, ← hus, if_neg (by omega), List.append_nil]
          have hxC := (Below.heap_setCell _ ⟨y0, 0, none⟩ (.int .i64 (l.length + pre.length + 1)) (z + 1) (by simp; omega)).trans h1
          have hyC := heap_setCell_same _ y0 0 _ _ (.int .i64 (l.length + pre.length + 1)) h3
          refine ⟨KeepsOthers.from (KeepsOthers.setCell _ _ _) _, ⟨?b1, ?t1⟩, ⟨⟨B, cB, ?g1, ?g2⟩, ?g3, ?g4, ?g5, ?g6, ?g7⟩⟩
          case b1 => exact (Below.refl _ Wx).setCell (p := ⟨y0, 0, none⟩) (by simp <;> omega) _
          case t1 => exact (KeepT.refl _ _ Wx).setCell (p := ⟨y0, 0, none⟩) (by simp <;> omega) _
          case g1 => rw [hxC, hu9]
          case g2 => rw [hu9]; exact ownsRow_setCell_below h2 (by simp <;> omega) _
          case g3 => rw [hyC]; simp; omega
          case g4 => rw [hu9]; simp; omega
          case g5 =>
            intro b hb n1 n2 o ho hc
            rw [Below.heap_setCell _ ⟨y0, 0, none⟩ _ b n2]
            exact h5 b hb n1 n2 o ho hc
          case g6 => exact h6.setCell (p := ⟨y0, 0, none⟩) (by simp <;> omega) _
          case g7 => simp only [World.setCell, Array.size_modify]; omega
      case done =>
        rintro D ys Wx hD rfl ⟨⟨B, cB, h1, h2⟩, h3, ⟨h4a, h4b⟩, h5, h6, h7⟩ hK
        have cx0 : Wx.cell? ⟨z + 1, 0, none⟩ = some (.slice B (usesL (ys.map (·.1)) G).length cB) := by rw [blk_cell h1]; rfl
        have cx1 : Wx.cell? ⟨z + 1, 1, none⟩ = some (.int .i64 (T - usedC (usesL (ys.map (·.1)) G))) := by rw [blk_cell h1]; rfl
        have cx2 : Wx.cell? ⟨z + 1, 2, none⟩ = some cv := by rw [blk_cell h1]; rfl
        have hB8' := h7
        have ha9' := h5 (w.heap.size + 1) (by omega) (by omega) (by omega) _ ha9 rfl
        have he9' := h5 (w.heap.size + 1 + 1) (by omega) (by omega) (by omega) _ he9 rfl
        have hc9' := h5 cb (by omega) (by omega) (by omega) _ hc9 rfl
        have hcv := hCV.out
        clear hCV
        subst hcv
        have ca0 := blk_cell ha9' 0
        have ca1 := blk_cell ha9' 1
        have ca2 := blk_cell ha9' 2
        have fa0 := blk_frozen ha9' 0
        have fa1 := blk_frozen ha9' 1
        have fa2 := blk_frozen ha9' 2
        have ce0 := blk_cell he9' 0
        have fe0 := blk_frozen he9' 0
        have HC : Hid _ := hc9'
        have HL : Hid _ := hls
        have HS : Hid _ := hspec
        have HG : Hid _ := hG
        have HB : Hid _ := hbl
        clear hF9 hf9 hx9 hp9 ha9 he9 hc9 hy8 hsq hFb hls hlenE hspec hqcr hq hl hB8 hFl hgl hGl hG hu1 hu2 hall hm30 hm hr64 hpl3 hc9' hbl
        gi_wp2_with fail
        obtain ⟨us, hus⟩ : ∃ us, us = usesL (ys.map (·.1)) G := ⟨_, rfl⟩
        rw [← hus] at h1 h2 cx0 cx1 h4a h4b ⊢
        have hA0 := heap_setCell_same Wx (w.heap.size + 1) 0 _ _ (.slice B us.length cB) ha9'
        have hA1 := heap_setCell_same _ (w.heap.size + 1) 1 _ _ (.int .i64 (T - usedC us)) hA0
        have hA2 := heap_setCell_same _ (w.heap.size + 1) 2 _ _ (.slice (some ⟨cb, 0, none⟩) (2 + l.length + qs.length) (2 + l.length + qs.length)) hA1
        have hA3 := (Below.heap_setCell _ ⟨w.heap.size + 1 + 1, 0, none⟩ (.int .i64 0) (w.heap.size + 1) (by simp)).trans hA2
        obtain ⟨W5, hW5⟩ : ∃ W5, W5 = (((Wx.setCell ⟨w.heap.size + 1, 0, none⟩ (.slice B us.length cB)).setCell ⟨w.heap.size + 1, 1, none⟩ (.int .i64 (T - usedC us))).setCell ⟨w.heap.size + 1, 2, none⟩ (.slice (some ⟨cb, 0, none⟩) (2 + l.length + qs.length) (2 + l.length + qs.length))).setCell ⟨w.heap.size + 1 + 1, 0, none⟩ (.int .i64 0) := ⟨_, rfl⟩
        have hb5 : ∀ b, b ≠ w.heap.size + 1 → b ≠ w.heap.size + 1 + 1 → W5.heap[b]? = Wx.heap[b]? := fun b n1 n2 => by rw [hW5, Below.heap_setCell _ ⟨w.heap.size + 1 + 1, 0, none⟩ _ b n2, Below.heap_setCell _ ⟨w.heap.size + 1, 2, none⟩ _ b n1, Below.heap_setCell _ ⟨w.heap.size + 1, 1, none⟩ _ b n1, Below.heap_setCell _ ⟨w.heap.size + 1, 0, none⟩ _ b n1]
        have hK5 : W5.heap[D]? = some (.deferred (some [])) := by rw [hW5]; exact (KeepsOthers.setCell _ _ _).same D _ ((KeepsOthers.setCell _ _ _).same D _ ((KeepsOthers.setCell _ _ _).same D _ ((KeepsOthers.setCell Wx _ _).same D _ hK rfl) rfl) rfl) rfl
        have hE5 : W5.heap[w.heap.size + 1 + 1]? = some (.cells #[.int .i64 0] 31 (0, 0)) := by
          rw [hW5]
          exact heap_setCell_same _ (w.heap.size + 1 + 1) 0 _ _ (.int .i64 0) ((Below.heap_setCell _ ⟨w.heap.size + 1, 2, none⟩ _ _ (by simp)).trans ((Below.heap_setCell _ ⟨w.heap.size + 1, 1, none⟩ _ _ (by simp)).trans ((Below.heap_setCell _ ⟨w.heap.size + 1, 0, none⟩ _ _ (by simp)).trans he9')))
        have hB5 : Below w.heap.size w W5 := by rw [hW5]; exact (((h6.setCell (p := ⟨w.heap.size + 1, 0, none⟩) (by simp) _).setCell (p := ⟨w.heap.size + 1, 1, none⟩) (by simp) _).setCell (p := ⟨w.heap.size + 1, 2, none⟩) (by simp) _).setCell (p := ⟨w.heap.size + 1 + 1, 0, none⟩) (by simp; omega) _
        have hO5 : OwnF Use.enc 3 95 w8.heap.size W5 (.slice B us.length cB) us := h2.kept fun b cur f hrow hb => by
          rw [hb5 b ?_ ?_]
          · exact hb
          · rintro rfl; omega
          · rintro rfl; omega
        rw [← hW5] at hA3 ⊢
        have hC5 := (hb5 cb (by omega) (by omega)).trans HC.out
        clear hW5 hb5
        have hgD := grownBy_putObj' W5 D (.deferred none)
        have hrD : ∀ r, some D = some r → ∃ o : Obj, W5.heap[r]? = some o ∧ o.isCells = false := fun r e => by cases e; exact ⟨_, hK5, rfl⟩
        have kc := KeepC.book hgD hrD
        refine ⟨by simp, .inl ⟨_, _, rfl, run_takeDeferred hK5, ?_⟩⟩
        refine ⟨by simp, .inr ⟨fun _ => by omega, .func 45, #[.pointer (some ⟨w.heap.size + 1 + 1, 0, none⟩)], 45, #[.pointer (some ⟨w.heap.size + 1 + 1, 0, none⟩)], rfl, by simp [go_sem], fun _ _ => trivial, ?_⟩⟩
        refine CallsDIn.mono (audit1_idle _ _ _) ?_
        rintro r u' w' ⟨⟨v, rfl⟩, rfl, rfl⟩
        have hA6 := kc _ _ _ _ hA3
        have hE6 := kc _ _ _ _ hE5
        have hC6 := kc _ _ _ _ hC5
        have hO6 := hO5.book hgD hrD
        have cA0 := blk_cell hA6 0
        have cA1 := blk_cell hA6 1
        have cA2 := blk_cell hA6 2
        have cE0 := blk_cell hE6 0
        have hG2 := HG.out
        have hL2 := HL.out
        have hS2 := HS.out
        have hT2 := HT.out
        refine ⟨.tuple #[.agg #[.slice B us.length cB, .int .i64 (T - usedC us), .slice (some ⟨cb, 0, none⟩) (2 + l.length + qs.length) (2 + l.length + qs.length)], .int .i64 0], by simp [results, Tryz.results21, go_sem, cA0, cA1, cA2, cE0], ?_⟩
        have hus2 : us = usesL (pairsL qs l) (F.drop l.length) := by rw [hus, ← hG2, ← hL2]
        refine ⟨F, bys, by rw [show (1 + (l.length : Int) + qs.length) = 2 + l.length + qs.length - 1 by omega]; exact hS2, HB.out, .slice B us.length cB, cb, ?_, ?_, ?_, ?_, ?_⟩
        · rw [← hus2, hT2]
        · rw [← hus2]; exact hO6.lower (by omega)
        · omega
        · exact hC6
        · exact hB5.trans (belowK_b (w := w) (Nat.le_refl _) W5 D _ _ (by have := hB8'; omega) hK5 rfl rfl)
end Go.Proofs.YtaiibchadlaifaaGreatDoor

namespace Go.Proofs.YtaiibchadlaifaaGreatDoor
open Go.RowKit Go.Shelf

/-- A use is one of an attempt for an eligible requirement, of one credit at least. -/
def useB (qs : List Req) (l : List Att) (u : Use) : Bool := decide (0 ≤ u.a) && decide (u.a < l.length) && decide (0 ≤ u.r) && decide (u.r < qs.length) && decide (1 ≤ u.c) && (l[u.a.toNat]?.elim false fun a => decide (u.c ≤ a.cr) && (qs[u.r.toNat]?.elim false fun q => eligB q a))
def useLt (x y : Use) : Bool := decide (x.a < y.a) || (decide (x.a = y.a) && decide (x.r < y.r))
def stepB (qs : List Req) (l : List Att) (us : List Use) (j : Nat) : Bool := us[j]?.elim true fun u => useB qs l u && (decide (j = 0) || (us[j - 1]?.elim true fun v => useLt v u))
def sumA (us : List Use) (i : Int) : Int := ((us.filter fun u => decide (u.a = i)).map fun u => u.c).sum
def sumR (us : List Use) (i : Int) : Int := ((us.filter fun u => decide (u.r = i)).map fun u => u.c).sum
def capA (uses : Int) (l : List Att) (us : List Use) (i : Nat) : Bool := decide (sumA us i ≤ (l[i]?.elim 0 fun a => a.cr * uses))
def capQ (qs : List Req) (us : List Use) (i : Nat) : Bool := decide (sumR us i ≤ (qs[i]?.elim 0 fun q => q.cr))
def asgB (uses : Int) (qs : List Req) (l : List Att) (us : List Use) : Bool := (List.range us.length).all (stepB qs l us) && (List.range l.length).all (capA uses l us) && (List.range qs.length).all (capQ qs us)

theorem range_all_succ {f : Nat → Bool} {k : Nat} : (List.range (k + 1)).all f = ((List.range k).all f && f k) := by rw [List.range_succ, List.all_append]; simp
theorem range_all_false {f : Nat → Bool} {n k : Nat} (hk : k < n) (h : f k = false) : (List.range n).all f = false := by
  rw [← Bool.not_eq_true, List.all_eq_true]
  intro h2; have := h2 k (List.mem_range.2 hk); rw [h] at this; cases this

theorem asgB_step {uses : Int} {qs : List Req} {l : List Att} {us : List Use} {k : Nat} {u : Use} (h : asgB uses qs l us = true) (hk : us[k]? = some u) : useB qs l u = true ∧ (k = 0 ∨ ∃ v, us[k - 1]? = some v ∧ useLt v u = true) := by
  unfold asgB at h
  rw [Bool.and_eq_true, Bool.and_eq_true, List.all_eq_true] at h
  have hkl := (List.getElem?_eq_some_iff.1 hk).1
  have h1 := h.1.1 k (List.mem_range.2 hkl)
  unfold stepB at h1
  rw [hk] at h1
  simp only [Option.elim_some, Bool.and_eq_true, Bool.or_eq_true, decide_eq_true_eq] at h1
  refine ⟨h1.1, h1.2.imp id fun h2 => ?_⟩
  rw [List.getElem?_eq_getElem (by omega)] at h2 ⊢
  exact ⟨_, rfl, h2⟩
theorem useB_c {qs : List Req} {l : List Att} {u : Use} (h : useB qs l u = true) (hlc : ∀ a, a ∈ l → 0 ≤ a.cr ∧ a.cr ≤ 60) : 1 ≤ u.c ∧ u.c ≤ 60 := by
  unfold useB at h
  simp only [Bool.and_eq_true, decide_eq_true_eq] at h
  obtain ⟨⟨⟨⟨⟨h1, h2⟩, h3⟩, h4⟩, h5⟩, h6⟩ := h
  obtain ⟨y, hy⟩ : ∃ y, l[u.a.toNat]? = some y := ⟨_, List.getElem?_eq_getElem (by omega)⟩
  rw [hy] at h6
  simp at h6
  have := hlc y (List.mem_of_getElem? hy)
  omega
theorem asgB_c {uses : Int} {qs : List Req} {l : List Att} {us : List Use} (h : asgB uses qs l us = true) (hlc : ∀ a, a ∈ l → 0 ≤ a.cr ∧ a.cr ≤ 60) : ∀ u, u ∈ us → 1 ≤ u.c ∧ u.c ≤ 60 := fun u hu => by
  obtain ⟨k, hk⟩ := List.getElem?_of_mem hu
  exact useB_c (asgB_step h hk).1 hlc
theorem sumA_snoc (us : List Use) (u : Use) (i : Int) : sumA (us ++ [u]) i = sumA us i + (if u.a = i then u.c else 0) := by
  unfold sumA; rw [List.filter_append]; by_cases h : u.a = i <;> simp [h]
theorem sumR_snoc (us : List Use) (u : Use) (i : Int) : sumR (us ++ [u]) i = sumR us i + (if u.r = i then u.c else 0) := by
  unfold sumR; rw [List.filter_append]; by_cases h : u.r = i <;> simp [h]
theorem sum_bd {us : List Use} (h : ∀ u, u ∈ us → 1 ≤ u.c ∧ u.c ≤ 60) (f : Use → Bool) : 0 ≤ ((us.filter f).map fun u => u.c).sum ∧ ((us.filter f).map fun u => u.c).sum ≤ 60 * us.length := by
  induction us with
  | nil => simp
  | cons x xs ih =>
    have h1 := ih (fun u hu => h u (List.mem_cons_of_mem _ hu))
    have h2 := h x (List.mem_cons_self ..)
    rw [List.filter_cons, List.length_cons]
    split
    · rw [List.map_cons, List.sum_cons]; omega
    · omega

theorem asgB_A {uses : Int} {qs : List Req} {l : List Att} {us : List Use} {k : Nat} {y : Att} (h : asgB uses qs l us = true) (hk : l[k]? = some y) : sumA us k ≤ y.cr * uses := by
  unfold asgB at h
  rw [Bool.and_eq_true, Bool.and_eq_true, List.all_eq_true, List.all_eq_true] at h
  have h1 := h.1.2 k (List.mem_range.2 (List.getElem?_eq_some_iff.1 hk).1)
  unfold capA at h1
  rw [hk] at h1
  exact of_decide_eq_true h1
theorem asgB_R {uses : Int} {qs : List Req} {l : List Att} {us : List Use} {k : Nat} {y : Req} (h : asgB uses qs l us = true) (hk : qs[k]? = some y) : sumR us k ≤ y.cr := by
  unfold asgB at h
  rw [Bool.and_eq_true] at h
  have h1 := List.all_eq_true.1 h.2 k (List.mem_range.2 (List.getElem?_eq_some_iff.1 hk).1)
  unfold capQ at h1
  rw [hk] at h1
  exact of_decide_eq_true h1

theorem useB_spec {qs : List Req} {l : List Att} {u : Use} (h : useB qs l u = true) : ∃ (ia ir : Nat) (y : Att) (z : Req), u.a = ia ∧ u.r = ir ∧ l[ia]? = some y ∧ qs[ir]? = some z ∧ 1 ≤ u.c ∧ u.c ≤ y.cr ∧ eligB z y = true := by
  unfold useB at h
  simp only [Bool.and_eq_true, decide_eq_true_eq] at h
  obtain ⟨⟨⟨⟨⟨h1, h2⟩, h3⟩, h4⟩, h5⟩, h6⟩ := h
  obtain ⟨y, hy⟩ : ∃ y, l[u.a.toNat]? = some y := ⟨_, List.getElem?_eq_getElem (by omega)⟩
  obtain ⟨z, hz⟩ : ∃ z, qs[u.r.toNat]? = some z := ⟨_, List.getElem?_eq_getElem (by omega)⟩
  rw [hy, hz] at h6
  simp at h6
  exact ⟨u.a.toNat, u.r.toNat, y, z, by omega, by omega, hy, hz, h5, h6.1, h6.2⟩

set_option maxRecDepth 100000 in
set_option maxHeartbeats 16000000 in
theorem ref19_Assignment_true (w : World) (p : Prg) (l : List Att) (us : List Use) (Aq A Au : Option Addr) (cq c cu : Nat) (hq : Rd kReq w Aq p.reqs) (hl : Rd kAtt w A l) (hu : Rd kUse w Au us) (hqn : p.reqs.length ≤ 1000) (hln : l.length ≤ 1000) (hun : us.length ≤ 10000)
    (hqc : ∀ q, q ∈ p.reqs → 0 ≤ q.cr ∧ q.cr ≤ 10000) (hlc : ∀ a, a ∈ l → 0 ≤ a.cr ∧ a.cr ≤ 60) (hus : 0 ≤ p.uses ∧ p.uses ≤ 5) (hT : asgB p.uses p.reqs l us = true) :
    Calls Tryz.prog 28 #[.agg #[.string p.nm, .int .i64 p.num, .int .i64 p.uses, .int .i64 p.earn, .int .i64 p.mn, .int .i64 p.md, .slice Aq p.reqs.length cq], .slice A l.length c, .slice Au us.length cu] w fun e w' => e = .returned (.bool true) ∧ Below w.heap.size w w' := by
  have hlq := hq.len
  have hll := hl.len
  have hlu := hu.len
  obtain ⟨pnm, pnum, puses, pearn, pmn, pmd, qs⟩ := p
  dsimp only at *
  have HT : Hid _ := hT
  clear hT
  go_enter Tryz.func28, Tryz.ntmps28
  go_wp2
  have hB := below1 w (.cells #[.string pnm, .int .i64 pnum, .int .i64 puses, .int .i64 pearn, .int .i64 pmn, .int .i64 pmd, .slice Aq qs.length cq] 26)
  have hb0 := blk_cell (alloc1_blk w (.cells #[.string pnm, .int .i64 pnum, .int .i64 puses, .int .i64 pearn, .int .i64 pmn, .int .i64 pmd, .slice Aq qs.length cq] 26))
  have hz := World.size_alloc w (.cells #[.string pnm, .int .i64 pnum, .int .i64 puses, .int .i64 pearn, .int .i64 pmn, .int .i64 pmd, .slice Aq qs.length cq] 26)
  generalize w.alloc _ = W2 at *
  go_loopw [7, 8] (fun i _ wr => ∃ k : Nat, k ≤ us.length ∧ i = .int .i64 k ∧ Below W2.heap.size W2 wr) (fun i _ _ => us.length - (intOf i).toNat)
  case atStart => exact ⟨0, Nat.zero_le _, rfl, Below.refl _ _⟩
  case round =>
    obtain ⟨k, hk, rfl, hBr⟩ := hrel
    have hb0r : ∀ j : Nat, wr.cell? ⟨w.heap.size, j, none⟩ = _ := fun j => (hBr.cell (p := ⟨w.heap.size, j, none⟩) (by simp; omega)).trans (hb0 j)
    clear hb0
    by_cases hlt : k < us.length
    · obtain ⟨x, b, off, hx, rfl, hb, f0, f1, f2⟩ := kUse_get ((hu.below hB).below hBr) hlt
      obtain ⟨hst1, hst2⟩ := asgB_step HT.out hx.out
      obtain ⟨ia, ir, y, z, hxa, hxr, hy, hz', hxc, hxy, hel⟩ := useB_spec hst1
      have hprev : k = 0 ∨ ∃ v, us[k - 1]? = some v ∧ useLt v x = true := hst2
      obtain ⟨xa, xr, xc⟩ := x
      dsimp only at f0 f1 f2 hxa hxr hxc hxy
      subst hxa hxr
      have e2 : ia < l.length := (List.getElem?_eq_some_iff.1 hy).1
      have e4 : ir < qs.length := (List.getElem?_eq_some_iff.1 hz').1
      have hzr : w.heap.size < wr.heap.size := by have := hBr.size; omega
      have hBr3 : Below w.heap.size w wr := bthen hB hBr
      obtain ⟨y', b2, off2, hy', rfl, hb2, g0, g1, g2, g3, g4⟩ := kAtt_get (hl.below hBr3) e2
      obtain ⟨z', b3, off3, B3, c3, hz3, rfl, hb3, hc3, hr3, k0, k1, k2, k3, k4, k5⟩ := kReq_get (hq.below hBr3) e4
      obtain rfl : y' = y := by have := hy'.out.symm.trans hy; injection this
      obtain rfl : z' = z := by have := hz3.out.symm.trans hz'; injection this
      obtain ⟨hyc0, hyc1⟩ := hlc y' (List.mem_of_getElem? hy)
      have hft := fun W (h1 : Below wr.heap.size wr W) => ref19_fits_c W z' y' B3 c3 (hr3.below h1)
      rw [hel] at hft
      have HX : Hid _ := hx.out
      have HST : Hid _ := hst2
      clear hx hst1 hst2 hy hz' hy' hz3 hel hr3 hc3
      go_wp2
      have hd3 := below1 wr (.cells #[.int .i64 ia, .int .i64 ir, .int .i64 xc] 95)
      have hy3 := World.alloc_heap_new wr (.cells #[.int .i64 ia, .int .i64 ir, .int .i64 xc] 95)
      have hs3 := World.size_alloc wr (.cells #[.int .i64 ia, .int .i64 ir, .int .i64 xc] 95)
      generalize wr.alloc _ = w3 at *
      have d0 := blk_cell hy3 0
      have d1 := blk_cell hy3 1
      have d2 := blk_cell hy3 2
      have hb03 : ∀ j : Nat, w3.cell? ⟨w.heap.size, j, none⟩ = _ := fun j => (hd3.cell (p := ⟨w.heap.size, j, none⟩) (by simp; omega)).trans (hb0r j)
      have g0' := (hd3.cell (p := ⟨b2, off2 + ia * 5, none⟩) hb2).trans g0
      have g1' := (hd3.cell (p := ⟨b2, off2 + ia * 5 + 1, none⟩) hb2).trans g1
      have g2' := (hd3.cell (p := ⟨b2, off2 + ia * 5 + 2, none⟩) hb2).trans g2
      have g3' := (hd3.cell (p := ⟨b2, off2 + ia * 5 + 3, none⟩) hb2).trans g3
      have g4' := (hd3.cell (p := ⟨b2, off2 + ia * 5 + 4, none⟩) hb2).trans g4
      have k0' := (hd3.cell (p := ⟨b3, _, none⟩) hb3).trans k0
      have k1' := (hd3.cell (p := ⟨b3, _, none⟩) hb3).trans k1
      have k2' := (hd3.cell (p := ⟨b3, _, none⟩) hb3).trans k2
      have k3' := (hd3.cell (p := ⟨b3, _, none⟩) hb3).trans k3
      have k4' := (hd3.cell (p := ⟨b3, _, none⟩) hb3).trans k4
      have k5' := (hd3.cell (p := ⟨b3, _, none⟩) hb3).trans k5
      have hft3 := hft w3.drew (hd3.drew)
      have hBd : Below w.heap.size w w3.drew := bthen hBr3 hd3.drew
      have hB2d : Below W2.heap.size W2 w3.drew := bthen hBr hd3.drew
      have hzY : wr.heap.size < w3.heap.size := by omega
      clear hft hy3 hb0r g0 g1 g2 g3 g4 k0 k1 k2 k3 k4 k5 hd3 f0 f1 f2
      generalize wr.heap.size = Y at *
      have hir : (0 : Int) ≤ ir := by omega
      refine wp_region_G 51 (fun w' => w' = w3.drew) (by kernel_rfl) (by kernel_rfl) (by intro d v c a w h; cases d <;> exact h) rfl ?_
      refine wpG_yield (v := ?_) (i := 0) rfl (by kernel_rfl) (by rfl) ?hy ?_
      case hy => (rintro w' rfl; simp only [List.getElem_toArray, List.getElem_cons_succ, List.getElem_cons_zero]; go_simp; try with_reducible rfl)
      simp only [List.getElem_toArray, List.getElem_cons_succ, List.getElem_cons_zero, Act.put, List.setIfInBounds_toArray, List.set_cons_zero, List.set_cons_succ]
      refine wpG_yield (v := ?_) (i := 1) rfl (by kernel_rfl) (by rfl) ?hy ?_
      case hy => (rintro w' rfl; simp only [List.getElem_toArray, List.getElem_cons_succ, List.getElem_cons_zero]; go_simp; try with_reducible rfl)
      simp only [List.getElem_toArray, List.getElem_cons_succ, List.getElem_cons_zero, Act.put, List.setIfInBounds_toArray, List.set_cons_zero, List.set_cons_succ]
      refine wpG_yield (v := .bool false) (i := 2) rfl (by kernel_rfl) (by rfl) ?hy ?_
      case hy => (rintro w' rfl; simp only [List.getElem_toArray, List.getElem_cons_succ, List.getElem_cons_zero]; go_simp; try (first | omega | simp <;> omega))
      simp only [List.getElem_toArray, List.getElem_cons_succ, List.getElem_cons_zero, Act.put, List.setIfInBounds_toArray, List.set_cons_zero, List.set_cons_succ]
      refine wpG_yield (v := ?_) (i := 3) rfl (by kernel_rfl) (by rfl) ?hy ?_
      case hy => (rintro w' rfl; simp only [List.getElem_toArray, List.getElem_cons_succ, List.getElem_cons_zero]; go_simp; try with_reducible rfl)
      simp only [List.getElem_toArray, List.getElem_cons_succ, List.getElem_cons_zero, Act.put, List.setIfInBounds_toArray, List.set_cons_zero, List.set_cons_succ]
      refine wpG_yield (v := ?_) (i := 4) rfl (by kernel_rfl) (by rfl) ?hy ?_
      case hy => (rintro w' rfl; simp only [List.getElem_toArray, List.getElem_cons_succ, List.getElem_cons_zero]; go_simp; try with_reducible rfl)
      simp only [List.getElem_toArray, List.getElem_cons_succ, List.getElem_cons_zero, Act.put, List.setIfInBounds_toArray, List.set_cons_zero, List.set_cons_succ]
      refine wpG_yield (v := ?_) (i := 5) rfl (by kernel_rfl) (by rfl) ?hy ?_
      case hy => (rintro w' rfl; simp only [List.getElem_toArray, List.getElem_cons_succ, List.getElem_cons_zero]; go_simp; try with_reducible rfl)
      simp only [List.getElem_toArray, List.getElem_cons_succ, List.getElem_cons_zero, Act.put, List.setIfInBounds_toArray, List.set_cons_zero, List.set_cons_succ]
      refine wpG_yield (v := ?_) (i := 6) rfl (by kernel_rfl) (by rfl) ?hy ?_
      case hy => (rintro w' rfl; simp only [List.getElem_toArray, List.getElem_cons_succ, List.getElem_cons_zero]; go_simp; try with_reducible rfl)
      simp only [List.getElem_toArray, List.getElem_cons_succ, List.getElem_cons_zero, Act.put, List.setIfInBounds_toArray, List.set_cons_zero, List.set_cons_succ]
      refine wpG_yield (v := ?_) (i := 7) rfl (by kernel_rfl) (by rfl) ?hy ?_
      case hy => (rintro w' rfl; simp only [List.getElem_toArray, List.getElem_cons_succ, List.getElem_cons_zero]; go_simp; try with_reducible rfl)
      simp only [List.getElem_toArray, List.getElem_cons_succ, List.getElem_cons_zero, Act.put, List.setIfInBounds_toArray, List.set_cons_zero, List.set_cons_succ]
      refine wpG_yield (v := .bool false) (i := 8) rfl (by kernel_rfl) (by rfl) ?hy ?_
      case hy => (rintro w' rfl; simp only [List.getElem_toArray, List.getElem_cons_succ, List.getElem_cons_zero]; go_simp; try (first | omega | simp <;> omega))
      simp only [List.getElem_toArray, List.getElem_cons_succ, List.getElem_cons_zero, Act.put, List.setIfInBounds_toArray, List.set_cons_zero, List.set_cons_succ]
      refine wpG_yield (v := ?_) (i := 9) rfl (by kernel_rfl) (by rfl) ?hy ?_
      case hy => (rintro w' rfl; simp only [List.getElem_toArray, List.getElem_cons_succ, List.getElem_cons_zero]; go_simp; try with_reducible rfl)
      simp only [List.getElem_toArray, List.getElem_cons_succ, List.getElem_cons_zero, Act.put, List.setIfInBounds_toArray, List.set_cons_zero, List.set_cons_succ]
      refine wpG_yield (v := ?_) (i := 10) rfl (by kernel_rfl) (by rfl) ?hy ?_
      case hy => (rintro w' rfl; simp only [List.getElem_toArray, List.getElem_cons_succ, List.getElem_cons_zero]; go_simp; try with_reducible rfl)
      simp only [List.getElem_toArray, List.getElem_cons_succ, List.getElem_cons_zero, Act.put, List.setIfInBounds_toArray, List.set_cons_zero, List.set_cons_succ]
      refine wpG_yield (v := ?_) (i := 11) rfl (by kernel_rfl) (by rfl) ?hy ?_
      case hy => (rintro w' rfl; simp only [List.getElem_toArray, List.getElem_cons_succ, List.getElem_cons_zero]; go_simp; try with_reducible rfl)
      simp only [List.getElem_toArray, List.getElem_cons_succ, List.getElem_cons_zero, Act.put, List.setIfInBounds_toArray, List.set_cons_zero, List.set_cons_succ]
      refine wpG_yield (v := ?_) (i := 12) rfl (by kernel_rfl) (by rfl) ?hy ?_
      case hy => (rintro w' rfl; simp only [List.getElem_toArray, List.getElem_cons_succ, List.getElem_cons_zero]; go_simp; try with_reducible rfl)
      simp only [List.getElem_toArray, List.getElem_cons_succ, List.getElem_cons_zero, Act.put, List.setIfInBounds_toArray, List.set_cons_zero, List.set_cons_succ]
      refine wpG_yield (v := .bool false) (i := 13) rfl (by kernel_rfl) (by rfl) ?hy ?_
      case hy => (rintro w' rfl; simp only [List.getElem_toArray, List.getElem_cons_succ, List.getElem_cons_zero]; go_simp; try (first | omega | simp <;> omega))
      simp only [List.getElem_toArray, List.getElem_cons_succ, List.getElem_cons_zero, Act.put, List.setIfInBounds_toArray, List.set_cons_zero, List.set_cons_succ]
      refine wpG_yield (v := ?_) (i := 14) rfl (by kernel_rfl) (by rfl) ?hy ?_
      case hy => (rintro w' rfl; simp only [List.getElem_toArray, List.getElem_cons_succ, List.getElem_cons_zero]; go_simp; try with_reducible rfl)
      simp only [List.getElem_toArray, List.getElem_cons_succ, List.getElem_cons_zero, Act.put, List.setIfInBounds_toArray, List.set_cons_zero, List.set_cons_succ]
      refine wpG_yield (v := ?_) (i := 15) rfl (by kernel_rfl) (by rfl) ?hy ?_
      case hy => (rintro w' rfl; simp only [List.getElem_toArray, List.getElem_cons_succ, List.getElem_cons_zero]; go_simp; try with_reducible rfl)
      simp only [List.getElem_toArray, List.getElem_cons_succ, List.getElem_cons_zero, Act.put, List.setIfInBounds_toArray, List.set_cons_zero, List.set_cons_succ]
      refine wpG_yield (v := ?_) (i := 16) rfl (by kernel_rfl) (by rfl) ?hy ?_
      case hy => (rintro w' rfl; simp only [List.getElem_toArray, List.getElem_cons_succ, List.getElem_cons_zero]; go_simp; try with_reducible rfl)
      simp only [List.getElem_toArray, List.getElem_cons_succ, List.getElem_cons_zero, Act.put, List.setIfInBounds_toArray, List.set_cons_zero, List.set_cons_succ]
      refine wpG_yield (v := ?_) (i := 17) rfl (by kernel_rfl) (by rfl) ?hy ?_
      case hy => (rintro w' rfl; simp only [List.getElem_toArray, List.getElem_cons_succ, List.getElem_cons_zero]; go_simp; try with_reducible rfl)
      simp only [List.getElem_toArray, List.getElem_cons_succ, List.getElem_cons_zero, Act.put, List.setIfInBounds_toArray, List.set_cons_zero, List.set_cons_succ]
      refine wpG_yield (v := ?_) (i := 18) rfl (by kernel_rfl) (by rfl) ?hy ?_
      case hy => (rintro w' rfl; simp only [List.getElem_toArray, List.getElem_cons_succ, List.getElem_cons_zero]; go_simp; try with_reducible rfl)
      simp only [List.getElem_toArray, List.getElem_cons_succ, List.getElem_cons_zero, Act.put, List.setIfInBounds_toArray, List.set_cons_zero, List.set_cons_succ]
      refine wpG_yield (v := ?_) (i := 19) rfl (by kernel_rfl) (by rfl) ?hy ?_
      case hy => (rintro w' rfl; simp only [List.getElem_toArray, List.getElem_cons_succ, List.getElem_cons_zero]; go_simp; try with_reducible rfl)
      simp only [List.getElem_toArray, List.getElem_cons_succ, List.getElem_cons_zero, Act.put, List.setIfInBounds_toArray, List.set_cons_zero, List.set_cons_succ]
      refine wpG_yield (v := ?_) (i := 20) rfl (by kernel_rfl) (by rfl) ?hy ?_
      case hy => (rintro w' rfl; simp only [List.getElem_toArray, List.getElem_cons_succ, List.getElem_cons_zero]; go_simp; try with_reducible rfl)
      simp only [List.getElem_toArray, List.getElem_cons_succ, List.getElem_cons_zero, Act.put, List.setIfInBounds_toArray, List.set_cons_zero, List.set_cons_succ]
      refine wpG_yield (v := .bool false) (i := 21) rfl (by kernel_rfl) (by rfl) ?hy ?_
      case hy => (rintro w' rfl; simp only [List.getElem_toArray, List.getElem_cons_succ, List.getElem_cons_zero]; go_simp; try (first | omega | simp <;> omega))
      simp only [List.getElem_toArray, List.getElem_cons_succ, List.getElem_cons_zero, Act.put, List.setIfInBounds_toArray, List.set_cons_zero, List.set_cons_succ]
      refine wpG_yield (v := ?_) (i := 22) rfl (by kernel_rfl) (by rfl) ?hy ?_
      case hy => (rintro w' rfl; simp only [List.getElem_toArray, List.getElem_cons_succ, List.getElem_cons_zero]; go_simp; try with_reducible rfl)
      simp only [List.getElem_toArray, List.getElem_cons_succ, List.getElem_cons_zero, Act.put, List.setIfInBounds_toArray, List.set_cons_zero, List.set_cons_succ]
      refine wpG_yield (v := ?_) (i := 23) rfl (by kernel_rfl) (by rfl) ?hy ?_
      case hy => (rintro w' rfl; simp only [List.getElem_toArray, List.getElem_cons_succ, List.getElem_cons_zero]; go_simp; try with_reducible rfl)
      simp only [List.getElem_toArray, List.getElem_cons_succ, List.getElem_cons_zero, Act.put, List.setIfInBounds_toArray, List.set_cons_zero, List.set_cons_succ]
      refine wpG_yield (v := ?_) (i := 24) rfl (by kernel_rfl) (by rfl) ?hy ?_
      case hy => (rintro w' rfl; simp only [List.getElem_toArray, List.getElem_cons_succ, List.getElem_cons_zero]; go_simp; try with_reducible rfl)
      simp only [List.getElem_toArray, List.getElem_cons_succ, List.getElem_cons_zero, Act.put, List.setIfInBounds_toArray, List.set_cons_zero, List.set_cons_succ]
      refine wpG_yield (v := ?_) (i := 25) rfl (by kernel_rfl) (by rfl) ?hy ?_
      case hy => (rintro w' rfl; simp only [List.getElem_toArray, List.getElem_cons_succ, List.getElem_cons_zero]; go_simp; try with_reducible rfl)
      simp only [List.getElem_toArray, List.getElem_cons_succ, List.getElem_cons_zero, Act.put, List.setIfInBounds_toArray, List.set_cons_zero, List.set_cons_succ]
      refine wpG_yield (v := .bool false) (i := 26) rfl (by kernel_rfl) (by rfl) ?hy ?_
      case hy => (rintro w' rfl; simp only [List.getElem_toArray, List.getElem_cons_succ, List.getElem_cons_zero]; go_simp; try (first | omega | simp <;> omega))
      simp only [List.getElem_toArray, List.getElem_cons_succ, List.getElem_cons_zero, Act.put, List.setIfInBounds_toArray, List.set_cons_zero, List.set_cons_succ]
      refine wpG_yield (v := ?_) (i := 27) rfl (by kernel_rfl) (by rfl) ?hy ?_
      case hy => (rintro w' rfl; simp only [List.getElem_toArray, List.getElem_cons_succ, List.getElem_cons_zero]; go_simp; try with_reducible rfl)
      simp only [List.getElem_toArray, List.getElem_cons_succ, List.getElem_cons_zero, Act.put, List.setIfInBounds_toArray, List.set_cons_zero, List.set_cons_succ]
      refine wpG_yield (v := ?_) (i := 28) rfl (by kernel_rfl) (by rfl) ?hy ?_
      case hy => (rintro w' rfl; simp only [List.getElem_toArray, List.getElem_cons_succ, List.getElem_cons_zero]; go_simp; try with_reducible rfl)
      simp only [List.getElem_toArray, List.getElem_cons_succ, List.getElem_cons_zero, Act.put, List.setIfInBounds_toArray, List.set_cons_zero, List.set_cons_succ]
      refine wpG_yield (v := ?_) (i := 29) rfl (by kernel_rfl) (by rfl) ?hy ?_
      case hy => (rintro w' rfl; simp only [List.getElem_toArray, List.getElem_cons_succ, List.getElem_cons_zero]; go_simp; try with_reducible rfl)
      simp only [List.getElem_toArray, List.getElem_cons_succ, List.getElem_cons_zero, Act.put, List.setIfInBounds_toArray, List.set_cons_zero, List.set_cons_succ]
      refine wpG_yield (v := ?_) (i := 30) rfl (by kernel_rfl) (by rfl) ?hy ?_
      case hy => (rintro w' rfl; simp only [List.getElem_toArray, List.getElem_cons_succ, List.getElem_cons_zero]; go_simp; try with_reducible rfl)
      simp only [List.getElem_toArray, List.getElem_cons_succ, List.getElem_cons_zero, Act.put, List.setIfInBounds_toArray, List.set_cons_zero, List.set_cons_succ]
      refine wpG_yield (v := ?_) (i := 31) rfl (by kernel_rfl) (by rfl) ?hy ?_
      case hy => (rintro w' rfl; simp only [List.getElem_toArray, List.getElem_cons_succ, List.getElem_cons_zero]; go_simp; try with_reducible rfl)
      simp only [List.getElem_toArray, List.getElem_cons_succ, List.getElem_cons_zero, Act.put, List.setIfInBounds_toArray, List.set_cons_zero, List.set_cons_succ]
      refine wpG_yield (v := ?_) (i := 32) rfl (by kernel_rfl) (by rfl) ?hy ?_
      case hy => (rintro w' rfl; simp only [List.getElem_toArray, List.getElem_cons_succ, List.getElem_cons_zero]; go_simp; try with_reducible rfl)
      simp only [List.getElem_toArray, List.getElem_cons_succ, List.getElem_cons_zero, Act.put, List.setIfInBounds_toArray, List.set_cons_zero, List.set_cons_succ]
      refine wpG_yield (v := ?_) (i := 33) rfl (by kernel_rfl) (by rfl) ?hy ?_
      case hy => (rintro w' rfl; simp only [List.getElem_toArray, List.getElem_cons_succ, List.getElem_cons_zero]; go_simp; try with_reducible rfl)
      simp only [List.getElem_toArray, List.getElem_cons_succ, List.getElem_cons_zero, Act.put, List.setIfInBounds_toArray, List.set_cons_zero, List.set_cons_succ]
      refine wpG_yield (v := ?_) (i := 34) rfl (by kernel_rfl) (by rfl) ?hy ?_
      case hy => (rintro w' rfl; simp only [List.getElem_toArray, List.getElem_cons_succ, List.getElem_cons_zero]; go_simp; try with_reducible rfl)
      simp only [List.getElem_toArray, List.getElem_cons_succ, List.getElem_cons_zero, Act.put, List.setIfInBounds_toArray, List.set_cons_zero, List.set_cons_succ]
      refine wpG_yield (v := ?_) (i := 35) rfl (by kernel_rfl) (by rfl) ?hy ?_
      case hy => (rintro w' rfl; simp only [List.getElem_toArray, List.getElem_cons_succ, List.getElem_cons_zero]; go_simp; try with_reducible rfl)
      simp only [List.getElem_toArray, List.getElem_cons_succ, List.getElem_cons_zero, Act.put, List.setIfInBounds_toArray, List.set_cons_zero, List.set_cons_succ]
      refine wpG_yield (v := ?_) (i := 36) rfl (by kernel_rfl) (by rfl) ?hy ?_
      case hy => (rintro w' rfl; simp only [List.getElem_toArray, List.getElem_cons_succ, List.getElem_cons_zero]; go_simp; try with_reducible rfl)
      simp only [List.getElem_toArray, List.getElem_cons_succ, List.getElem_cons_zero, Act.put, List.setIfInBounds_toArray, List.set_cons_zero, List.set_cons_succ]
      refine wpG_yield (v := .bool false) (i := 37) rfl (by kernel_rfl) (by rfl) ?hy ?_
      case hy => (rintro w' rfl; simp only [List.getElem_toArray, List.getElem_cons_succ, List.getElem_cons_zero]; go_simp; try (first | omega | simp <;> omega))
      simp only [List.getElem_toArray, List.getElem_cons_succ, List.getElem_cons_zero, Act.put, List.setIfInBounds_toArray, List.set_cons_zero, List.set_cons_succ]
      refine wpG_yield (v := ?_) (i := 38) rfl (by kernel_rfl) (by rfl) ?hy ?_
      case hy => (rintro w' rfl; simp only [List.getElem_toArray, List.getElem_cons_succ, List.getElem_cons_zero]; go_simp; try with_reducible rfl)
      simp only [List.getElem_toArray, List.getElem_cons_succ, List.getElem_cons_zero, Act.put, List.setIfInBounds_toArray, List.set_cons_zero, List.set_cons_succ]
      refine wpG_yield (v := ?_) (i := 39) rfl (by kernel_rfl) (by rfl) ?hy ?_
      case hy => (rintro w' rfl; simp only [List.getElem_toArray, List.getElem_cons_succ, List.getElem_cons_zero]; go_simp; try with_reducible rfl)
      simp only [List.getElem_toArray, List.getElem_cons_succ, List.getElem_cons_zero, Act.put, List.setIfInBounds_toArray, List.set_cons_zero, List.set_cons_succ]
      refine wpG_yield (v := ?_) (i := 40) rfl (by kernel_rfl) (by rfl) ?hy ?_
      case hy => (rintro w' rfl; simp only [List.getElem_toArray, List.getElem_cons_succ, List.getElem_cons_zero]; go_simp; try with_reducible rfl)
      simp only [List.getElem_toArray, List.getElem_cons_succ, List.getElem_cons_zero, Act.put, List.setIfInBounds_toArray, List.set_cons_zero, List.set_cons_succ]
      refine wpG_yield (v := ?_) (i := 41) rfl (by kernel_rfl) (by rfl) ?hy ?_
      case hy => (rintro w' rfl; simp only [List.getElem_toArray, List.getElem_cons_succ, List.getElem_cons_zero]; go_simp; try with_reducible rfl)
      simp only [List.getElem_toArray, List.getElem_cons_succ, List.getElem_cons_zero, Act.put, List.setIfInBounds_toArray, List.set_cons_zero, List.set_cons_succ]
      refine wpG_yield (v := ?_) (i := 42) rfl (by kernel_rfl) (by rfl) ?hy ?_
      case hy => (rintro w' rfl; simp only [List.getElem_toArray, List.getElem_cons_succ, List.getElem_cons_zero]; go_simp; try with_reducible rfl)
      simp only [List.getElem_toArray, List.getElem_cons_succ, List.getElem_cons_zero, Act.put, List.setIfInBounds_toArray, List.set_cons_zero, List.set_cons_succ]
      refine wpG_yield (v := ?_) (i := 43) rfl (by kernel_rfl) (by rfl) ?hy ?_
      case hy => (rintro w' rfl; simp only [List.getElem_toArray, List.getElem_cons_succ, List.getElem_cons_zero]; go_simp; try with_reducible rfl)
      simp only [List.getElem_toArray, List.getElem_cons_succ, List.getElem_cons_zero, Act.put, List.setIfInBounds_toArray, List.set_cons_zero, List.set_cons_succ]
      refine wpG_yield (v := ?_) (i := 44) rfl (by kernel_rfl) (by rfl) ?hy ?_
      case hy => (rintro w' rfl; simp only [List.getElem_toArray, List.getElem_cons_succ, List.getElem_cons_zero]; go_simp; try with_reducible rfl)
      simp only [List.getElem_toArray, List.getElem_cons_succ, List.getElem_cons_zero, Act.put, List.setIfInBounds_toArray, List.set_cons_zero, List.set_cons_succ]
      refine wpG_yield (v := ?_) (i := 45) rfl (by kernel_rfl) (by rfl) ?hy ?_
      case hy => (rintro w' rfl; simp only [List.getElem_toArray, List.getElem_cons_succ, List.getElem_cons_zero]; go_simp; try with_reducible rfl)
      simp only [List.getElem_toArray, List.getElem_cons_succ, List.getElem_cons_zero, Act.put, List.setIfInBounds_toArray, List.set_cons_zero, List.set_cons_succ]
      refine wpG_yield (v := ?_) (i := 46) rfl (by kernel_rfl) (by rfl) ?hy ?_
      case hy => (rintro w' rfl; simp only [List.getElem_toArray, List.getElem_cons_succ, List.getElem_cons_zero]; go_simp; try with_reducible rfl)
      simp only [List.getElem_toArray, List.getElem_cons_succ, List.getElem_cons_zero, Act.put, List.setIfInBounds_toArray, List.set_cons_zero, List.set_cons_succ]
      refine wpG_yield (v := ?_) (i := 47) rfl (by kernel_rfl) (by rfl) ?hy ?_
      case hy => (rintro w' rfl; simp only [List.getElem_toArray, List.getElem_cons_succ, List.getElem_cons_zero]; go_simp; try with_reducible rfl)
      simp only [List.getElem_toArray, List.getElem_cons_succ, List.getElem_cons_zero, Act.put, List.setIfInBounds_toArray, List.set_cons_zero, List.set_cons_succ]
      refine wpG_yield (v := ?_) (i := 48) rfl (by kernel_rfl) (by rfl) ?hy ?_
      case hy => (rintro w' rfl; simp only [List.getElem_toArray, List.getElem_cons_succ, List.getElem_cons_zero]; go_simp; try with_reducible rfl)
      simp only [List.getElem_toArray, List.getElem_cons_succ, List.getElem_cons_zero, Act.put, List.setIfInBounds_toArray, List.set_cons_zero, List.set_cons_succ]
      refine wpG_yield (v := ?_) (i := 49) rfl (by kernel_rfl) (by rfl) ?hy ?_
      case hy => (rintro w' rfl; simp only [List.getElem_toArray, List.getElem_cons_succ, List.getElem_cons_zero]; go_simp; try with_reducible rfl)
      simp only [List.getElem_toArray, List.getElem_cons_succ, List.getElem_cons_zero, Act.put, List.setIfInBounds_toArray, List.set_cons_zero, List.set_cons_succ]
      refine wpG_yield (v := ?_) (i := 50) rfl (by kernel_rfl) (by rfl) ?hy ?_
      case hy => (rintro w' rfl; simp only [List.getElem_toArray, List.getElem_cons_succ, List.getElem_cons_zero]; go_simp; try with_reducible rfl)
      simp only [List.getElem_toArray, List.getElem_cons_succ, List.getElem_cons_zero, Act.put, List.setIfInBounds_toArray, List.set_cons_zero, List.set_cons_succ]
      refine wpG_done (by kernel_rfl) ?_
      simp only [List.drop_succ_cons, List.drop_zero]
      go_wp2_with (go_at_call 41; refine hft3.mono ?_; refine stopHere ?_)
      unfold Stopped
      rintro e w5 ⟨rfl, hd5⟩
      have hB5 := bthen hBd hd5
      have hB25 := bthen hB2d hd5
      have d0' := (hd5.cell (p := ⟨Y, 0, none⟩) hzY).trans d0
      have d1' := (hd5.cell (p := ⟨Y, 1, none⟩) hzY).trans d1
      have hzY5 : Y < w5.heap.size := Nat.lt_of_lt_of_le hzY hd5.size
      clear hBd hB2d g0' g1' g2' g3' g4' k0' k1' k2' k3' k4' k5' d0 d1 d2 hft3 hb03 hd5 hzY hs3
      rcases Nat.eq_zero_or_pos k with rfl | hkp
      · clear HX HST
        go_wp2
        refine wp_region_G 34 (fun w' => w' = w5.drew) (by kernel_rfl) (by kernel_rfl) (by intro d v c a w h; cases d <;> exact h) rfl ?_
        refine wpG_yield (v := ?_) (i := 0) rfl (by kernel_rfl) (by rfl) ?hy ?_
        case hy => (rintro w' rfl; simp only [List.getElem_toArray, List.getElem_cons_succ, List.getElem_cons_zero]; go_simp; try with_reducible rfl)
        simp only [List.getElem_toArray, List.getElem_cons_succ, List.getElem_cons_zero, Act.put, List.setIfInBounds_toArray, List.set_cons_zero, List.set_cons_succ]
        refine wpG_yield (v := .bool false) (i := 1) rfl (by kernel_rfl) (by rfl) ?hy ?_
        case hy => (rintro w' rfl; simp only [List.getElem_toArray, List.getElem_cons_succ, List.getElem_cons_zero]; go_simp; try (first | omega | simp <;> omega))
        simp only [List.getElem_toArray, List.getElem_cons_succ, List.getElem_cons_zero, Act.put, List.setIfInBounds_toArray, List.set_cons_zero, List.set_cons_succ]
        refine wpG_yield (v := ?_) (i := 2) rfl (by kernel_rfl) (by rfl) ?hy ?_
        case hy => (rintro w' rfl; simp only [List.getElem_toArray, List.getElem_cons_succ, List.getElem_cons_zero]; go_simp; try with_reducible rfl)
        simp only [List.getElem_toArray, List.getElem_cons_succ, List.getElem_cons_zero, Act.put, List.setIfInBounds_toArray, List.set_cons_zero, List.set_cons_succ]
        refine wpG_take (v := undef) (i := 3) rfl (by kernel_rfl) (.inr ⟨by rfl, rfl⟩) ?_
        simp only [List.getElem_toArray, List.getElem_cons_succ, List.getElem_cons_zero, Act.put, List.setIfInBounds_toArray, List.set_cons_zero, List.set_cons_succ]
        refine wpG_take (v := undef) (i := 4) rfl (by kernel_rfl) (.inr ⟨by rfl, rfl⟩) ?_
        simp only [List.getElem_toArray, List.getElem_cons_succ, List.getElem_cons_zero, Act.put, List.setIfInBounds_toArray, List.set_cons_zero, List.set_cons_succ]
        refine wpG_take (v := undef) (i := 5) rfl (by kernel_rfl) (.inr ⟨by rfl, rfl⟩) ?_
        simp only [List.getElem_toArray, List.getElem_cons_succ, List.getElem_cons_zero, Act.put, List.setIfInBounds_toArray, List.set_cons_zero, List.set_cons_succ]
        refine wpG_take (v := undef) (i := 6) rfl (by kernel_rfl) (.inr ⟨by rfl, rfl⟩) ?_
        simp only [List.getElem_toArray, List.getElem_cons_succ, List.getElem_cons_zero, Act.put, List.setIfInBounds_toArray, List.set_cons_zero, List.set_cons_succ]
        refine wpG_take (v := undef) (i := 7) rfl (by kernel_rfl) (.inr ⟨by rfl, rfl⟩) ?_
        simp only [List.getElem_toArray, List.getElem_cons_succ, List.getElem_cons_zero, Act.put, List.setIfInBounds_toArray, List.set_cons_zero, List.set_cons_succ]
        refine wpG_take (v := undef) (i := 8) rfl (by kernel_rfl) (.inr ⟨by rfl, rfl⟩) ?_
        simp only [List.getElem_toArray, List.getElem_cons_succ, List.getElem_cons_zero, Act.put, List.setIfInBounds_toArray, List.set_cons_zero, List.set_cons_succ]
        refine wpG_take (v := undef) (i := 9) rfl (by kernel_rfl) (.inr ⟨by rfl, rfl⟩) ?_
        simp only [List.getElem_toArray, List.getElem_cons_succ, List.getElem_cons_zero, Act.put, List.setIfInBounds_toArray, List.set_cons_zero, List.set_cons_succ]
        refine wpG_take (v := undef) (i := 10) rfl (by kernel_rfl) (.inr ⟨by rfl, rfl⟩) ?_
        simp only [List.getElem_toArray, List.getElem_cons_succ, List.getElem_cons_zero, Act.put, List.setIfInBounds_toArray, List.set_cons_zero, List.set_cons_succ]
        refine wpG_take (v := undef) (i := 11) rfl (by kernel_rfl) (.inr ⟨by rfl, rfl⟩) ?_
        simp only [List.getElem_toArray, List.getElem_cons_succ, List.getElem_cons_zero, Act.put, List.setIfInBounds_toArray, List.set_cons_zero, List.set_cons_succ]
        refine wpG_take (v := undef) (i := 12) rfl (by kernel_rfl) (.inr ⟨by rfl, rfl⟩) ?_
        simp only [List.getElem_toArray, List.getElem_cons_succ, List.getElem_cons_zero, Act.put, List.setIfInBounds_toArray, List.set_cons_zero, List.set_cons_succ]
        refine wpG_take (v := undef) (i := 13) rfl (by kernel_rfl) (.inr ⟨by rfl, rfl⟩) ?_
        simp only [List.getElem_toArray, List.getElem_cons_succ, List.getElem_cons_zero, Act.put, List.setIfInBounds_toArray, List.set_cons_zero, List.set_cons_succ]
        refine wpG_take (v := undef) (i := 14) rfl (by kernel_rfl) (.inr ⟨by rfl, rfl⟩) ?_
        simp only [List.getElem_toArray, List.getElem_cons_succ, List.getElem_cons_zero, Act.put, List.setIfInBounds_toArray, List.set_cons_zero, List.set_cons_succ]
        refine wpG_take (v := undef) (i := 15) rfl (by kernel_rfl) (.inr ⟨by rfl, rfl⟩) ?_
        simp only [List.getElem_toArray, List.getElem_cons_succ, List.getElem_cons_zero, Act.put, List.setIfInBounds_toArray, List.set_cons_zero, List.set_cons_succ]
        refine wpG_take (v := undef) (i := 16) rfl (by kernel_rfl) (.inr ⟨by rfl, rfl⟩) ?_
        simp only [List.getElem_toArray, List.getElem_cons_succ, List.getElem_cons_zero, Act.put, List.setIfInBounds_toArray, List.set_cons_zero, List.set_cons_succ]
        refine wpG_take (v := undef) (i := 17) rfl (by kernel_rfl) (.inr ⟨by rfl, rfl⟩) ?_
        simp only [List.getElem_toArray, List.getElem_cons_succ, List.getElem_cons_zero, Act.put, List.setIfInBounds_toArray, List.set_cons_zero, List.set_cons_succ]
        refine wpG_take (v := undef) (i := 18) rfl (by kernel_rfl) (.inr ⟨by rfl, rfl⟩) ?_
        simp only [List.getElem_toArray, List.getElem_cons_succ, List.getElem_cons_zero, Act.put, List.setIfInBounds_toArray, List.set_cons_zero, List.set_cons_succ]
        refine wpG_take (v := undef) (i := 19) rfl (by kernel_rfl) (.inr ⟨by rfl, rfl⟩) ?_
        simp only [List.getElem_toArray, List.getElem_cons_succ, List.getElem_cons_zero, Act.put, List.setIfInBounds_toArray, List.set_cons_zero, List.set_cons_succ]
        refine wpG_take (v := undef) (i := 20) rfl (by kernel_rfl) (.inr ⟨by rfl, rfl⟩) ?_
        simp only [List.getElem_toArray, List.getElem_cons_succ, List.getElem_cons_zero, Act.put, List.setIfInBounds_toArray, List.set_cons_zero, List.set_cons_succ]
        refine wpG_take (v := undef) (i := 21) rfl (by kernel_rfl) (.inr ⟨by rfl, rfl⟩) ?_
        simp only [List.getElem_toArray, List.getElem_cons_succ, List.getElem_cons_zero, Act.put, List.setIfInBounds_toArray, List.set_cons_zero, List.set_cons_succ]
        refine wpG_take (v := undef) (i := 22) rfl (by kernel_rfl) (.inr ⟨by rfl, rfl⟩) ?_
        simp only [List.getElem_toArray, List.getElem_cons_succ, List.getElem_cons_zero, Act.put, List.setIfInBounds_toArray, List.set_cons_zero, List.set_cons_succ]
        refine wpG_take (v := undef) (i := 23) rfl (by kernel_rfl) (.inr ⟨by rfl, rfl⟩) ?_
        simp only [List.getElem_toArray, List.getElem_cons_succ, List.getElem_cons_zero, Act.put, List.setIfInBounds_toArray, List.set_cons_zero, List.set_cons_succ]
        refine wpG_take (v := undef) (i := 24) rfl (by kernel_rfl) (.inr ⟨by rfl, rfl⟩) ?_
        simp only [List.getElem_toArray, List.getElem_cons_succ, List.getElem_cons_zero, Act.put, List.setIfInBounds_toArray, List.set_cons_zero, List.set_cons_succ]
        refine wpG_take (v := undef) (i := 25) rfl (by kernel_rfl) (.inr ⟨by rfl, rfl⟩) ?_
        simp only [List.getElem_toArray, List.getElem_cons_succ, List.getElem_cons_zero, Act.put, List.setIfInBounds_toArray, List.set_cons_zero, List.set_cons_succ]
        refine wpG_take (v := undef) (i := 26) rfl (by kernel_rfl) (.inr ⟨by rfl, rfl⟩) ?_
        simp only [List.getElem_toArray, List.getElem_cons_succ, List.getElem_cons_zero, Act.put, List.setIfInBounds_toArray, List.set_cons_zero, List.set_cons_succ]
        refine wpG_take (v := undef) (i := 27) rfl (by kernel_rfl) (.inr ⟨by rfl, rfl⟩) ?_
        simp only [List.getElem_toArray, List.getElem_cons_succ, List.getElem_cons_zero, Act.put, List.setIfInBounds_toArray, List.set_cons_zero, List.set_cons_succ]
        refine wpG_take (v := undef) (i := 28) rfl (by kernel_rfl) (.inr ⟨by rfl, rfl⟩) ?_
        simp only [List.getElem_toArray, List.getElem_cons_succ, List.getElem_cons_zero, Act.put, List.setIfInBounds_toArray, List.set_cons_zero, List.set_cons_succ]
        refine wpG_take (v := undef) (i := 29) rfl (by kernel_rfl) (.inr ⟨by rfl, rfl⟩) ?_
        simp only [List.getElem_toArray, List.getElem_cons_succ, List.getElem_cons_zero, Act.put, List.setIfInBounds_toArray, List.set_cons_zero, List.set_cons_succ]
        refine wpG_take (v := undef) (i := 30) rfl (by kernel_rfl) (.inr ⟨by rfl, rfl⟩) ?_
        simp only [List.getElem_toArray, List.getElem_cons_succ, List.getElem_cons_zero, Act.put, List.setIfInBounds_toArray, List.set_cons_zero, List.set_cons_succ]
        refine wpG_take (v := undef) (i := 31) rfl (by kernel_rfl) (.inr ⟨by rfl, rfl⟩) ?_
        simp only [List.getElem_toArray, List.getElem_cons_succ, List.getElem_cons_zero, Act.put, List.setIfInBounds_toArray, List.set_cons_zero, List.set_cons_succ]
        refine wpG_take (v := undef) (i := 32) rfl (by kernel_rfl) (.inr ⟨by rfl, rfl⟩) ?_
        simp only [List.getElem_toArray, List.getElem_cons_succ, List.getElem_cons_zero, Act.put, List.setIfInBounds_toArray, List.set_cons_zero, List.set_cons_succ]
        refine wpG_take (v := undef) (i := 33) rfl (by kernel_rfl) (.inr ⟨by rfl, rfl⟩) ?_
        simp only [List.getElem_toArray, List.getElem_cons_succ, List.getElem_cons_zero, Act.put, List.setIfInBounds_toArray, List.set_cons_zero, List.set_cons_succ]
        refine wpG_done (by kernel_rfl) ?_
        simp only [List.drop_succ_cons, List.drop_zero]
        go_wp2
        go_roundw
        case rel => exact ⟨0 + 1, by omega, by go_num, hB25.drew⟩
        case measure => simp [intOf]; omega
      obtain ⟨m, rfl⟩ : ∃ m, k = m + 1 := ⟨k - 1, by omega⟩
      obtain ⟨v, hv, hvlt⟩ : ∃ v, us[m]? = some v ∧ useLt v ⟨ia, ir, xc⟩ = true := by
        rcases HST.out with h | h
        · omega
        · simpa using h
      obtain ⟨v', b', off', hv', hA', hb', p0, p1, p2⟩ := kUse_get (hu.below hB5) (k := m) (by omega)
      obtain rfl : v' = v := by have := hv'.out.symm.trans hv; injection this
      injection hA' with hA'
      injection hA' with hA1 hA2
      subst hA1 hA2
      have hmlt : m < us.length := by omega
      have hwr : Hid (IntKind.i64.wrap (m : Int) = m) := by show _ = _; simp [IntKind.wrap, IntKind.bits, IntKind.signed]; omega
      have hlt2 : v'.a < ia ∨ (v'.a = ia ∧ v'.r < ir) := by unfold useLt at hvlt; simpa using hvlt
      clear hv hvlt hv' HX HST hb'
      rcases hlt2 with h1 | ⟨h1, h2⟩
      · go_wp2
        refine wp_region_G 34 (fun w' => w' = w5.drew) (by kernel_rfl) (by kernel_rfl) (by intro d v c a w h; cases d <;> exact h) rfl ?_
        refine wpG_yield (v := ?_) (i := 0) rfl (by kernel_rfl) (by rfl) ?hy ?_
        case hy => (rintro w' rfl; simp only [List.getElem_toArray, List.getElem_cons_succ, List.getElem_cons_zero]; go_simp; try with_reducible rfl)
        simp only [List.getElem_toArray, List.getElem_cons_succ, List.getElem_cons_zero, Act.put, List.setIfInBounds_toArray, List.set_cons_zero, List.set_cons_succ]
        refine wpG_yield (v := .bool true) (i := 1) rfl (by kernel_rfl) (by rfl) ?hy ?_
        case hy => (rintro w' rfl; simp only [List.getElem_toArray, List.getElem_cons_succ, List.getElem_cons_zero]; go_simp; try (first | omega | simp <;> omega))
        simp only [List.getElem_toArray, List.getElem_cons_succ, List.getElem_cons_zero, Act.put, List.setIfInBounds_toArray, List.set_cons_zero, List.set_cons_succ]
        refine wpG_yield (v := ?_) (i := 2) rfl (by kernel_rfl) (by rfl) ?hy ?_
        case hy => (rintro w' rfl; simp only [List.getElem_toArray, List.getElem_cons_succ, List.getElem_cons_zero]; go_simp; try with_reducible rfl)
        simp only [List.getElem_toArray, List.getElem_cons_succ, List.getElem_cons_zero, Act.put, List.setIfInBounds_toArray, List.set_cons_zero, List.set_cons_succ]
        refine wpG_yield (v := ?_) (i := 3) rfl (by kernel_rfl) (by rfl) ?hy ?_
        case hy => (rintro w' rfl; simp only [List.getElem_toArray, List.getElem_cons_succ, List.getElem_cons_zero]; go_simp; try with_reducible rfl)
        simp only [List.getElem_toArray, List.getElem_cons_succ, List.getElem_cons_zero, Act.put, List.setIfInBounds_toArray, List.set_cons_zero, List.set_cons_succ]
        refine wpG_yield (v := ?_) (i := 4) rfl (by kernel_rfl) (by rfl) ?hy ?_
        case hy => (rintro w' rfl; simp only [List.getElem_toArray, List.getElem_cons_succ, List.getElem_cons_zero]; go_simp; try with_reducible rfl)
        simp only [List.getElem_toArray, List.getElem_cons_succ, List.getElem_cons_zero, Act.put, List.setIfInBounds_toArray, List.set_cons_zero, List.set_cons_succ]
        refine wpG_yield (v := .int .i64 m) (i := 5) rfl (by kernel_rfl) (by rfl) ?hy ?_
        case hy => (rintro w' rfl; have hw := hwr.out; simp only [List.getElem_toArray, List.getElem_cons_succ, List.getElem_cons_zero]; go_simp; try simp [hw])
        simp only [List.getElem_toArray, List.getElem_cons_succ, List.getElem_cons_zero, Act.put, List.setIfInBounds_toArray, List.set_cons_zero, List.set_cons_succ]
        refine wpG_yield (v := ?_) (i := 6) rfl (by kernel_rfl) (by rfl) ?hy ?_
        case hy => (rintro w' rfl; simp only [List.getElem_toArray, List.getElem_cons_succ, List.getElem_cons_zero]; go_simp; try with_reducible rfl)
        simp only [List.getElem_toArray, List.getElem_cons_succ, List.getElem_cons_zero, Act.put, List.setIfInBounds_toArray, List.set_cons_zero, List.set_cons_succ]
        refine wpG_yield (v := ?_) (i := 7) rfl (by kernel_rfl) (by rfl) ?hy ?_
        case hy => (rintro w' rfl; simp only [List.getElem_toArray, List.getElem_cons_succ, List.getElem_cons_zero]; go_simp; try with_reducible rfl)
        simp only [List.getElem_toArray, List.getElem_cons_succ, List.getElem_cons_zero, Act.put, List.setIfInBounds_toArray, List.set_cons_zero, List.set_cons_succ]
        refine wpG_yield (v := ?_) (i := 8) rfl (by kernel_rfl) (by rfl) ?hy ?_
        case hy => (rintro w' rfl; simp only [List.getElem_toArray, List.getElem_cons_succ, List.getElem_cons_zero]; go_simp; try with_reducible rfl)
        simp only [List.getElem_toArray, List.getElem_cons_succ, List.getElem_cons_zero, Act.put, List.setIfInBounds_toArray, List.set_cons_zero, List.set_cons_succ]
        refine wpG_yield (v := ?_) (i := 9) rfl (by kernel_rfl) (by rfl) ?hy ?_
        case hy => (rintro w' rfl; simp only [List.getElem_toArray, List.getElem_cons_succ, List.getElem_cons_zero]; go_simp; try with_reducible rfl)
        simp only [List.getElem_toArray, List.getElem_cons_succ, List.getElem_cons_zero, Act.put, List.setIfInBounds_toArray, List.set_cons_zero, List.set_cons_succ]
        refine wpG_yield (v := ?_) (i := 10) rfl (by kernel_rfl) (by rfl) ?hy ?_
        case hy => (rintro w' rfl; simp only [List.getElem_toArray, List.getElem_cons_succ, List.getElem_cons_zero]; go_simp; try with_reducible rfl)
        simp only [List.getElem_toArray, List.getElem_cons_succ, List.getElem_cons_zero, Act.put, List.setIfInBounds_toArray, List.set_cons_zero, List.set_cons_succ]
        refine wpG_yield (v := .bool false) (i := 11) rfl (by kernel_rfl) (by rfl) ?hy ?_
        case hy => (rintro w' rfl; simp only [List.getElem_toArray, List.getElem_cons_succ, List.getElem_cons_zero]; go_simp; try (first | omega | simp <;> omega))
        simp only [List.getElem_toArray, List.getElem_cons_succ, List.getElem_cons_zero, Act.put, List.setIfInBounds_toArray, List.set_cons_zero, List.set_cons_succ]
        refine wpG_yield (v := ?_) (i := 12) rfl (by kernel_rfl) (by rfl) ?hy ?_
        case hy => (rintro w' rfl; simp only [List.getElem_toArray, List.getElem_cons_succ, List.getElem_cons_zero]; go_simp; try with_reducible rfl)
        simp only [List.getElem_toArray, List.getElem_cons_succ, List.getElem_cons_zero, Act.put, List.setIfInBounds_toArray, List.set_cons_zero, List.set_cons_succ]
        refine wpG_yield (v := ?_) (i := 13) rfl (by kernel_rfl) (by rfl) ?hy ?_
        case hy => (rintro w' rfl; simp only [List.getElem_toArray, List.getElem_cons_succ, List.getElem_cons_zero]; go_simp; try with_reducible rfl)
        simp only [List.getElem_toArray, List.getElem_cons_succ, List.getElem_cons_zero, Act.put, List.setIfInBounds_toArray, List.set_cons_zero, List.set_cons_succ]
        refine wpG_yield (v := ?_) (i := 14) rfl (by kernel_rfl) (by rfl) ?hy ?_
        case hy => (rintro w' rfl; simp only [List.getElem_toArray, List.getElem_cons_succ, List.getElem_cons_zero]; go_simp; try with_reducible rfl)
        simp only [List.getElem_toArray, List.getElem_cons_succ, List.getElem_cons_zero, Act.put, List.setIfInBounds_toArray, List.set_cons_zero, List.set_cons_succ]
        refine wpG_yield (v := .int .i64 m) (i := 15) rfl (by kernel_rfl) (by rfl) ?hy ?_
        case hy => (rintro w' rfl; have hw := hwr.out; simp only [List.getElem_toArray, List.getElem_cons_succ, List.getElem_cons_zero]; go_simp; try simp [hw])
        simp only [List.getElem_toArray, List.getElem_cons_succ, List.getElem_cons_zero, Act.put, List.setIfInBounds_toArray, List.set_cons_zero, List.set_cons_succ]
        refine wpG_yield (v := ?_) (i := 16) rfl (by kernel_rfl) (by rfl) ?hy ?_
        case hy => (rintro w' rfl; simp only [List.getElem_toArray, List.getElem_cons_succ, List.getElem_cons_zero]; go_simp; try with_reducible rfl)
        simp only [List.getElem_toArray, List.getElem_cons_succ, List.getElem_cons_zero, Act.put, List.setIfInBounds_toArray, List.set_cons_zero, List.set_cons_succ]
        refine wpG_yield (v := ?_) (i := 17) rfl (by kernel_rfl) (by rfl) ?hy ?_
        case hy => (rintro w' rfl; simp only [List.getElem_toArray, List.getElem_cons_succ, List.getElem_cons_zero]; go_simp; try with_reducible rfl)
        simp only [List.getElem_toArray, List.getElem_cons_succ, List.getElem_cons_zero, Act.put, List.setIfInBounds_toArray, List.set_cons_zero, List.set_cons_succ]
        refine wpG_yield (v := ?_) (i := 18) rfl (by kernel_rfl) (by rfl) ?hy ?_
        case hy => (rintro w' rfl; simp only [List.getElem_toArray, List.getElem_cons_succ, List.getElem_cons_zero]; go_simp; try with_reducible rfl)
        simp only [List.getElem_toArray, List.getElem_cons_succ, List.getElem_cons_zero, Act.put, List.setIfInBounds_toArray, List.set_cons_zero, List.set_cons_succ]
        refine wpG_yield (v := ?_) (i := 19) rfl (by kernel_rfl) (by rfl) ?hy ?_
        case hy => (rintro w' rfl; simp only [List.getElem_toArray, List.getElem_cons_succ, List.getElem_cons_zero]; go_simp; try with_reducible rfl)
        simp only [List.getElem_toArray, List.getElem_cons_succ, List.getElem_cons_zero, Act.put, List.setIfInBounds_toArray, List.set_cons_zero, List.set_cons_succ]
        refine wpG_yield (v := ?_) (i := 20) rfl (by kernel_rfl) (by rfl) ?hy ?_
        case hy => (rintro w' rfl; simp only [List.getElem_toArray, List.getElem_cons_succ, List.getElem_cons_zero]; go_simp; try with_reducible rfl)
        simp only [List.getElem_toArray, List.getElem_cons_succ, List.getElem_cons_zero, Act.put, List.setIfInBounds_toArray, List.set_cons_zero, List.set_cons_succ]
        refine wpG_yield (v := .bool false) (i := 21) rfl (by kernel_rfl) (by rfl) ?hy ?_
        case hy => (rintro w' rfl; simp only [List.getElem_toArray, List.getElem_cons_succ, List.getElem_cons_zero]; go_simp; try (first | omega | simp <;> omega))
        simp only [List.getElem_toArray, List.getElem_cons_succ, List.getElem_cons_zero, Act.put, List.setIfInBounds_toArray, List.set_cons_zero, List.set_cons_succ]
        refine wpG_yield (v := ?_) (i := 22) rfl (by kernel_rfl) (by rfl) ?hy ?_
        case hy => (rintro w' rfl; simp only [List.getElem_toArray, List.getElem_cons_succ, List.getElem_cons_zero]; go_simp; try with_reducible rfl)
        simp only [List.getElem_toArray, List.getElem_cons_succ, List.getElem_cons_zero, Act.put, List.setIfInBounds_toArray, List.set_cons_zero, List.set_cons_succ]
        refine wpG_take (v := undef) (i := 23) rfl (by kernel_rfl) (.inr ⟨by rfl, rfl⟩) ?_
        simp only [List.getElem_toArray, List.getElem_cons_succ, List.getElem_cons_zero, Act.put, List.setIfInBounds_toArray, List.set_cons_zero, List.set_cons_succ]
        refine wpG_take (v := undef) (i := 24) rfl (by kernel_rfl) (.inr ⟨by rfl, rfl⟩) ?_
        simp only [List.getElem_toArray, List.getElem_cons_succ, List.getElem_cons_zero, Act.put, List.setIfInBounds_toArray, List.set_cons_zero, List.set_cons_succ]
        refine wpG_take (v := undef) (i := 25) rfl (by kernel_rfl) (.inr ⟨by rfl, rfl⟩) ?_
        simp only [List.getElem_toArray, List.getElem_cons_succ, List.getElem_cons_zero, Act.put, List.setIfInBounds_toArray, List.set_cons_zero, List.set_cons_succ]
        refine wpG_take (v := undef) (i := 26) rfl (by kernel_rfl) (.inr ⟨by rfl, rfl⟩) ?_
        simp only [List.getElem_toArray, List.getElem_cons_succ, List.getElem_cons_zero, Act.put, List.setIfInBounds_toArray, List.set_cons_zero, List.set_cons_succ]
        refine wpG_take (v := undef) (i := 27) rfl (by kernel_rfl) (.inr ⟨by rfl, rfl⟩) ?_
        simp only [List.getElem_toArray, List.getElem_cons_succ, List.getElem_cons_zero, Act.put, List.setIfInBounds_toArray, List.set_cons_zero, List.set_cons_succ]
        refine wpG_take (v := undef) (i := 28) rfl (by kernel_rfl) (.inr ⟨by rfl, rfl⟩) ?_
        simp only [List.getElem_toArray, List.getElem_cons_succ, List.getElem_cons_zero, Act.put, List.setIfInBounds_toArray, List.set_cons_zero, List.set_cons_succ]
        refine wpG_take (v := undef) (i := 29) rfl (by kernel_rfl) (.inr ⟨by rfl, rfl⟩) ?_
        simp only [List.getElem_toArray, List.getElem_cons_succ, List.getElem_cons_zero, Act.put, List.setIfInBounds_toArray, List.set_cons_zero, List.set_cons_succ]
        refine wpG_take (v := undef) (i := 30) rfl (by kernel_rfl) (.inr ⟨by rfl, rfl⟩) ?_
        simp only [List.getElem_toArray, List.getElem_cons_succ, List.getElem_cons_zero, Act.put, List.setIfInBounds_toArray, List.set_cons_zero, List.set_cons_succ]
        refine wpG_take (v := undef) (i := 31) rfl (by kernel_rfl) (.inr ⟨by rfl, rfl⟩) ?_
        simp only [List.getElem_toArray, List.getElem_cons_succ, List.getElem_cons_zero, Act.put, List.setIfInBounds_toArray, List.set_cons_zero, List.set_cons_succ]
        refine wpG_yield (v := ?_) (i := 32) rfl (by kernel_rfl) (by rfl) ?hy ?_
        case hy => (rintro w' rfl; simp only [List.getElem_toArray, List.getElem_cons_succ, List.getElem_cons_zero]; go_simp; try with_reducible rfl)
        simp only [List.getElem_toArray, List.getElem_cons_succ, List.getElem_cons_zero, Act.put, List.setIfInBounds_toArray, List.set_cons_zero, List.set_cons_succ]
        refine wpG_yield (v := ?_) (i := 33) rfl (by kernel_rfl) (by rfl) ?hy ?_
        case hy => (rintro w' rfl; simp only [List.getElem_toArray, List.getElem_cons_succ, List.getElem_cons_zero]; go_simp; try with_reducible rfl)
        simp only [List.getElem_toArray, List.getElem_cons_succ, List.getElem_cons_zero, Act.put, List.setIfInBounds_toArray, List.set_cons_zero, List.set_cons_succ]
        refine wpG_done (by kernel_rfl) ?_
        simp only [List.drop_succ_cons, List.drop_zero]
        go_wp2
        go_roundw
        case rel => exact ⟨m + 1 + 1, by omega, by go_num, hB25.drew⟩
        case measure => simp [intOf]; omega
      · go_wp2
        refine wp_region_G 34 (fun w' => w' = w5.drew) (by kernel_rfl) (by kernel_rfl) (by intro d v c a w h; cases d <;> exact h) rfl ?_
        refine wpG_yield (v := ?_) (i := 0) rfl (by kernel_rfl) (by rfl) ?hy ?_
        case hy => (rintro w' rfl; simp only [List.getElem_toArray, List.getElem_cons_succ, List.getElem_cons_zero]; go_simp; try with_reducible rfl)
        simp only [List.getElem_toArray, List.getElem_cons_succ, List.getElem_cons_zero, Act.put, List.setIfInBounds_toArray, List.set_cons_zero, List.set_cons_succ]
        refine wpG_yield (v := .bool true) (i := 1) rfl (by kernel_rfl) (by rfl) ?hy ?_
        case hy => (rintro w' rfl; simp only [List.getElem_toArray, List.getElem_cons_succ, List.getElem_cons_zero]; go_simp; try (first | omega | simp <;> omega))
        simp only [List.getElem_toArray, List.getElem_cons_succ, List.getElem_cons_zero, Act.put, List.setIfInBounds_toArray, List.set_cons_zero, List.set_cons_succ]
        refine wpG_yield (v := ?_) (i := 2) rfl (by kernel_rfl) (by rfl) ?hy ?_
        case hy => (rintro w' rfl; simp only [List.getElem_toArray, List.getElem_cons_succ, List.getElem_cons_zero]; go_simp; try with_reducible rfl)
        simp only [List.getElem_toArray, List.getElem_cons_succ, List.getElem_cons_zero, Act.put, List.setIfInBounds_toArray, List.set_cons_zero, List.set_cons_succ]
        refine wpG_yield (v := ?_) (i := 3) rfl (by kernel_rfl) (by rfl) ?hy ?_
        case hy => (rintro w' rfl; simp only [List.getElem_toArray, List.getElem_cons_succ, List.getElem_cons_zero]; go_simp; try with_reducible rfl)
        simp only [List.getElem_toArray, List.getElem_cons_succ, List.getElem_cons_zero, Act.put, List.setIfInBounds_toArray, List.set_cons_zero, List.set_cons_succ]
        refine wpG_yield (v := ?_) (i := 4) rfl (by kernel_rfl) (by rfl) ?hy ?_
        case hy => (rintro w' rfl; simp only [List.getElem_toArray, List.getElem_cons_succ, List.getElem_cons_zero]; go_simp; try with_reducible rfl)
        simp only [List.getElem_toArray, List.getElem_cons_succ, List.getElem_cons_zero, Act.put, List.setIfInBounds_toArray, List.set_cons_zero, List.set_cons_succ]
        refine wpG_yield (v := .int .i64 m) (i := 5) rfl (by kernel_rfl) (by rfl) ?hy ?_
        case hy => (rintro w' rfl; have hw := hwr.out; simp only [List.getElem_toArray, List.getElem_cons_succ, List.getElem_cons_zero]; go_simp; try simp [hw])
        simp only [List.getElem_toArray, List.getElem_cons_succ, List.getElem_cons_zero, Act.put, List.setIfInBounds_toArray, List.set_cons_zero, List.set_cons_succ]
        refine wpG_yield (v := ?_) (i := 6) rfl (by kernel_rfl) (by rfl) ?hy ?_
        case hy => (rintro w' rfl; simp only [List.getElem_toArray, List.getElem_cons_succ, List.getElem_cons_zero]; go_simp; try with_reducible rfl)
        simp only [List.getElem_toArray, List.getElem_cons_succ, List.getElem_cons_zero, Act.put, List.setIfInBounds_toArray, List.set_cons_zero, List.set_cons_succ]
        refine wpG_yield (v := ?_) (i := 7) rfl (by kernel_rfl) (by rfl) ?hy ?_
        case hy => (rintro w' rfl; simp only [List.getElem_toArray, List.getElem_cons_succ, List.getElem_cons_zero]; go_simp; try with_reducible rfl)
        simp only [List.getElem_toArray, List.getElem_cons_succ, List.getElem_cons_zero, Act.put, List.setIfInBounds_toArray, List.set_cons_zero, List.set_cons_succ]
        refine wpG_yield (v := ?_) (i := 8) rfl (by kernel_rfl) (by rfl) ?hy ?_
        case hy => (rintro w' rfl; simp only [List.getElem_toArray, List.getElem_cons_succ, List.getElem_cons_zero]; go_simp; try with_reducible rfl)
        simp only [List.getElem_toArray, List.getElem_cons_succ, List.getElem_cons_zero, Act.put, List.setIfInBounds_toArray, List.set_cons_zero, List.set_cons_succ]
        refine wpG_yield (v := ?_) (i := 9) rfl (by kernel_rfl) (by rfl) ?hy ?_
        case hy => (rintro w' rfl; simp only [List.getElem_toArray, List.getElem_cons_succ, List.getElem_cons_zero]; go_simp; try with_reducible rfl)
        simp only [List.getElem_toArray, List.getElem_cons_succ, List.getElem_cons_zero, Act.put, List.setIfInBounds_toArray, List.set_cons_zero, List.set_cons_succ]
        refine wpG_yield (v := ?_) (i := 10) rfl (by kernel_rfl) (by rfl) ?hy ?_
        case hy => (rintro w' rfl; simp only [List.getElem_toArray, List.getElem_cons_succ, List.getElem_cons_zero]; go_simp; try with_reducible rfl)
        simp only [List.getElem_toArray, List.getElem_cons_succ, List.getElem_cons_zero, Act.put, List.setIfInBounds_toArray, List.set_cons_zero, List.set_cons_succ]
        refine wpG_yield (v := .bool false) (i := 11) rfl (by kernel_rfl) (by rfl) ?hy ?_
        case hy => (rintro w' rfl; simp only [List.getElem_toArray, List.getElem_cons_succ, List.getElem_cons_zero]; go_simp; try (first | omega | simp <;> omega))
        simp only [List.getElem_toArray, List.getElem_cons_succ, List.getElem_cons_zero, Act.put, List.setIfInBounds_toArray, List.set_cons_zero, List.set_cons_succ]
        refine wpG_yield (v := ?_) (i := 12) rfl (by kernel_rfl) (by rfl) ?hy ?_
        case hy => (rintro w' rfl; simp only [List.getElem_toArray, List.getElem_cons_succ, List.getElem_cons_zero]; go_simp; try with_reducible rfl)
        simp only [List.getElem_toArray, List.getElem_cons_succ, List.getElem_cons_zero, Act.put, List.setIfInBounds_toArray, List.set_cons_zero, List.set_cons_succ]
        refine wpG_yield (v := ?_) (i := 13) rfl (by kernel_rfl) (by rfl) ?hy ?_
        case hy => (rintro w' rfl; simp only [List.getElem_toArray, List.getElem_cons_succ, List.getElem_cons_zero]; go_simp; try with_reducible rfl)
        simp only [List.getElem_toArray, List.getElem_cons_succ, List.getElem_cons_zero, Act.put, List.setIfInBounds_toArray, List.set_cons_zero, List.set_cons_succ]
        refine wpG_yield (v := ?_) (i := 14) rfl (by kernel_rfl) (by rfl) ?hy ?_
        case hy => (rintro w' rfl; simp only [List.getElem_toArray, List.getElem_cons_succ, List.getElem_cons_zero]; go_simp; try with_reducible rfl)
        simp only [List.getElem_toArray, List.getElem_cons_succ, List.getElem_cons_zero, Act.put, List.setIfInBounds_toArray, List.set_cons_zero, List.set_cons_succ]
        refine wpG_yield (v := .int .i64 m) (i := 15) rfl (by kernel_rfl) (by rfl) ?hy ?_
        case hy => (rintro w' rfl; have hw := hwr.out; simp only [List.getElem_toArray, List.getElem_cons_succ, List.getElem_cons_zero]; go_simp; try simp [hw])
        simp only [List.getElem_toArray, List.getElem_cons_succ, List.getElem_cons_zero, Act.put, List.setIfInBounds_toArray, List.set_cons_zero, List.set_cons_succ]
        refine wpG_yield (v := ?_) (i := 16) rfl (by kernel_rfl) (by rfl) ?hy ?_
        case hy => (rintro w' rfl; simp only [List.getElem_toArray, List.getElem_cons_succ, List.getElem_cons_zero]; go_simp; try with_reducible rfl)
        simp only [List.getElem_toArray, List.getElem_cons_succ, List.getElem_cons_zero, Act.put, List.setIfInBounds_toArray, List.set_cons_zero, List.set_cons_succ]
        refine wpG_yield (v := ?_) (i := 17) rfl (by kernel_rfl) (by rfl) ?hy ?_
        case hy => (rintro w' rfl; simp only [List.getElem_toArray, List.getElem_cons_succ, List.getElem_cons_zero]; go_simp; try with_reducible rfl)
        simp only [List.getElem_toArray, List.getElem_cons_succ, List.getElem_cons_zero, Act.put, List.setIfInBounds_toArray, List.set_cons_zero, List.set_cons_succ]
        refine wpG_yield (v := ?_) (i := 18) rfl (by kernel_rfl) (by rfl) ?hy ?_
        case hy => (rintro w' rfl; simp only [List.getElem_toArray, List.getElem_cons_succ, List.getElem_cons_zero]; go_simp; try with_reducible rfl)
        simp only [List.getElem_toArray, List.getElem_cons_succ, List.getElem_cons_zero, Act.put, List.setIfInBounds_toArray, List.set_cons_zero, List.set_cons_succ]
        refine wpG_yield (v := ?_) (i := 19) rfl (by kernel_rfl) (by rfl) ?hy ?_
        case hy => (rintro w' rfl; simp only [List.getElem_toArray, List.getElem_cons_succ, List.getElem_cons_zero]; go_simp; try with_reducible rfl)
        simp only [List.getElem_toArray, List.getElem_cons_succ, List.getElem_cons_zero, Act.put, List.setIfInBounds_toArray, List.set_cons_zero, List.set_cons_succ]
        refine wpG_yield (v := ?_) (i := 20) rfl (by kernel_rfl) (by rfl) ?hy ?_
        case hy => (rintro w' rfl; simp only [List.getElem_toArray, List.getElem_cons_succ, List.getElem_cons_zero]; go_simp; try with_reducible rfl)
        simp only [List.getElem_toArray, List.getElem_cons_succ, List.getElem_cons_zero, Act.put, List.setIfInBounds_toArray, List.set_cons_zero, List.set_cons_succ]
        refine wpG_yield (v := .bool true) (i := 21) rfl (by kernel_rfl) (by rfl) ?hy ?_
        case hy => (rintro w' rfl; simp only [List.getElem_toArray, List.getElem_cons_succ, List.getElem_cons_zero]; go_simp; try (first | omega | simp <;> omega))
        simp only [List.getElem_toArray, List.getElem_cons_succ, List.getElem_cons_zero, Act.put, List.setIfInBounds_toArray, List.set_cons_zero, List.set_cons_succ]
        refine wpG_yield (v := ?_) (i := 22) rfl (by kernel_rfl) (by rfl) ?hy ?_
        case hy => (rintro w' rfl; simp only [List.getElem_toArray, List.getElem_cons_succ, List.getElem_cons_zero]; go_simp; try with_reducible rfl)
        simp only [List.getElem_toArray, List.getElem_cons_succ, List.getElem_cons_zero, Act.put, List.setIfInBounds_toArray, List.set_cons_zero, List.set_cons_succ]
        refine wpG_yield (v := ?_) (i := 23) rfl (by kernel_rfl) (by rfl) ?hy ?_
        case hy => (rintro w' rfl; simp only [List.getElem_toArray, List.getElem_cons_succ, List.getElem_cons_zero]; go_simp; try with_reducible rfl)
        simp only [List.getElem_toArray, List.getElem_cons_succ, List.getElem_cons_zero, Act.put, List.setIfInBounds_toArray, List.set_cons_zero, List.set_cons_succ]
        refine wpG_yield (v := ?_) (i := 24) rfl (by kernel_rfl) (by rfl) ?hy ?_
        case hy => (rintro w' rfl; simp only [List.getElem_toArray, List.getElem_cons_succ, List.getElem_cons_zero]; go_simp; try with_reducible rfl)
        simp only [List.getElem_toArray, List.getElem_cons_succ, List.getElem_cons_zero, Act.put, List.setIfInBounds_toArray, List.set_cons_zero, List.set_cons_succ]
        refine wpG_yield (v := .int .i64 m) (i := 25) rfl (by kernel_rfl) (by rfl) ?hy ?_
        case hy => (rintro w' rfl; have hw := hwr.out; simp only [List.getElem_toArray, List.getElem_cons_succ, List.getElem_cons_zero]; go_simp; try simp [hw])
        simp only [List.getElem_toArray, List.getElem_cons_succ, List.getElem_cons_zero, Act.put, List.setIfInBounds_toArray, List.set_cons_zero, List.set_cons_succ]
        refine wpG_yield (v := ?_) (i := 26) rfl (by kernel_rfl) (by rfl) ?hy ?_
        case hy => (rintro w' rfl; simp only [List.getElem_toArray, List.getElem_cons_succ, List.getElem_cons_zero]; go_simp; try with_reducible rfl)
        simp only [List.getElem_toArray, List.getElem_cons_succ, List.getElem_cons_zero, Act.put, List.setIfInBounds_toArray, List.set_cons_zero, List.set_cons_succ]
        refine wpG_yield (v := ?_) (i := 27) rfl (by kernel_rfl) (by rfl) ?hy ?_
        case hy => (rintro w' rfl; simp only [List.getElem_toArray, List.getElem_cons_succ, List.getElem_cons_zero]; go_simp; try with_reducible rfl)
        simp only [List.getElem_toArray, List.getElem_cons_succ, List.getElem_cons_zero, Act.put, List.setIfInBounds_toArray, List.set_cons_zero, List.set_cons_succ]
        refine wpG_yield (v := ?_) (i := 28) rfl (by kernel_rfl) (by rfl) ?hy ?_
        case hy => (rintro w' rfl; simp only [List.getElem_toArray, List.getElem_cons_succ, List.getElem_cons_zero]; go_simp; try with_reducible rfl)
        simp only [List.getElem_toArray, List.getElem_cons_succ, List.getElem_cons_zero, Act.put, List.setIfInBounds_toArray, List.set_cons_zero, List.set_cons_succ]
        refine wpG_yield (v := ?_) (i := 29) rfl (by kernel_rfl) (by rfl) ?hy ?_
        case hy => (rintro w' rfl; simp only [List.getElem_toArray, List.getElem_cons_succ, List.getElem_cons_zero]; go_simp; try with_reducible rfl)
        simp only [List.getElem_toArray, List.getElem_cons_succ, List.getElem_cons_zero, Act.put, List.setIfInBounds_toArray, List.set_cons_zero, List.set_cons_succ]
        refine wpG_yield (v := ?_) (i := 30) rfl (by kernel_rfl) (by rfl) ?hy ?_
        case hy => (rintro w' rfl; simp only [List.getElem_toArray, List.getElem_cons_succ, List.getElem_cons_zero]; go_simp; try with_reducible rfl)
        simp only [List.getElem_toArray, List.getElem_cons_succ, List.getElem_cons_zero, Act.put, List.setIfInBounds_toArray, List.set_cons_zero, List.set_cons_succ]
        refine wpG_yield (v := .bool false) (i := 31) rfl (by kernel_rfl) (by rfl) ?hy ?_
        case hy => (rintro w' rfl; simp only [List.getElem_toArray, List.getElem_cons_succ, List.getElem_cons_zero]; go_simp; try (first | omega | simp <;> omega))
        simp only [List.getElem_toArray, List.getElem_cons_succ, List.getElem_cons_zero, Act.put, List.setIfInBounds_toArray, List.set_cons_zero, List.set_cons_succ]
        refine wpG_yield (v := ?_) (i := 32) rfl (by kernel_rfl) (by rfl) ?hy ?_
        case hy => (rintro w' rfl; simp only [List.getElem_toArray, List.getElem_cons_succ, List.getElem_cons_zero]; go_simp; try with_reducible rfl)
        simp only [List.getElem_toArray, List.getElem_cons_succ, List.getElem_cons_zero, Act.put, List.setIfInBounds_toArray, List.set_cons_zero, List.set_cons_succ]
        refine wpG_yield (v := ?_) (i := 33) rfl (by kernel_rfl) (by rfl) ?hy ?_
        case hy => (rintro w' rfl; simp only [List.getElem_toArray, List.getElem_cons_succ, List.getElem_cons_zero]; go_simp; try with_reducible rfl)
        simp only [List.getElem_toArray, List.getElem_cons_succ, List.getElem_cons_zero, Act.put, List.setIfInBounds_toArray, List.set_cons_zero, List.set_cons_succ]
        refine wpG_done (by kernel_rfl) ?_
        simp only [List.drop_succ_cons, List.drop_zero]
        go_wp2
        go_roundw
        case rel => exact ⟨m + 1 + 1, by omega, by go_num, hB25.drew⟩
        case measure => simp [intOf]; omega
    · obtain rfl : k = us.length := by omega
      obtain ⟨w1, rfl⟩ : ∃ w1 : World, w1 = wr := ⟨_, rfl⟩
      have hBr3 : Below w.heap.size w w1 := bthen hB hBr
      have huc := asgB_c HT.out hlc
      have hzr : w.heap.size < w1.heap.size := by have := hBr.size; omega
      clear hB hBr hz
      go_wp2
      go_loopw [9] (fun i wo => ∃ k : Nat, k ≤ l.length ∧ i = .int .i64 k ∧ Below w1.heap.size w1 wo) (fun i _ => l.length - (intOf i).toNat)
      case atStart => exact ⟨0, Nat.zero_le _, rfl, Below.refl _ _⟩
      case round =>
        obtain ⟨k, hk, rfl, hBo⟩ := hrel
        obtain ⟨wo, rfl⟩ : ∃ wo : World, wo = wr := ⟨_, rfl⟩
        have hb0o : ∀ j : Nat, wo.cell? ⟨w.heap.size, j, none⟩ = _ := fun j => (hBo.cell (p := ⟨w.heap.size, j, none⟩) (by simp; omega)).trans (hb0r j)
        have hBw : Below w.heap.size w wo := bthen hBr3 hBo
        by_cases hkl : k < l.length
        · obtain ⟨y, b2, off2, hy, rfl, hb2, g0, g1, g2, g3, g4⟩ := kAtt_get (hl.below hBw) hkl
          obtain ⟨hyc0, hyc1⟩ := hlc y (List.mem_of_getElem? hy.out)
          have hcap := asgB_A HT.out hy.out
          go_wp2
          go_loopw [10, 11] (fun n i wi => ∃ j : Nat, j ≤ us.length ∧ i = .int .i64 j ∧ n = .int .i64 (sumA (us.take j) k) ∧ Below wo.heap.size wo wi) (fun _ i _ => us.length - (intOf i).toNat)
          case atStart => exact ⟨0, Nat.zero_le _, rfl, rfl, Below.refl _ _⟩
          case round =>
            obtain ⟨j, hj, rfl, rfl, hBi⟩ := hrel
            obtain ⟨wi, rfl⟩ : ∃ wi : World, wi = wr := ⟨_, rfl⟩
            have hBwi : Below w.heap.size w wi := bthen hBw hBi
            obtain ⟨T, hT⟩ : ∃ T, T = sumA (us.take j) k := ⟨_, rfl⟩
            have hTb := sum_bd (us := us.take j) (fun u hu => huc u (List.mem_of_mem_take hu)) (fun u => decide (u.a = (k : Int)))
            have hTb2 : 0 ≤ T ∧ T ≤ 60 * (us.take j).length := by rw [hT]; exact hTb
            have htl : (us.take j).length ≤ j := List.length_take_le _ _
            clear hTb
            obtain ⟨hTb0, hTb1⟩ := hTb2
            by_cases hjl : j < us.length
            · obtain ⟨x, b, off, hx, rfl, hb, f0, f1, f2⟩ := kUse_get (hu.below hBwi) hjl
              have hxc := huc x (List.mem_of_getElem? hx.out)
              have hts : Hid (sumA (us.take (j + 1)) k = T + (if x.a = (k : Int) then x.c else 0)) := by show _ = _; rw [take_snoc_get hx.out, sumA_snoc, hT]
              rw [← hT]
              have HT1 : Hid _ := hT
              clear hT hx
              by_cases hxa : x.a = (k : Int)
              · have hts2 : Hid (sumA (us.take (j + 1)) k = T + x.c) := by show _ = _; rw [hts.out, if_pos hxa]
                clear hts
                go_wp2
                go_roundw
                case rel => exact ⟨j + 1, hjl, by go_num, by rw [hts2.out], hBi⟩
                case measure => simp [intOf]; omega
              · have hts2 : Hid (sumA (us.take (j + 1)) k = T) := by show _ = _; rw [hts.out, if_neg hxa]; simp
                clear hts
                go_wp2
                go_roundw
                case rel => exact ⟨j + 1, hjl, by go_num, by rw [hts2.out], hBi⟩
                case measure => simp [intOf]; omega
            · obtain rfl : j = us.length := by omega
              rw [List.take_length] at hT
              rw [← hT] at hcap
              rw [List.take_length, ← hT]
              have hb0i : ∀ j : Nat, wi.cell? ⟨w.heap.size, j, none⟩ = _ := fun j => (hBi.cell (p := ⟨w.heap.size, j, none⟩) (by have := hBo.size; simp; omega)).trans (hb0o j)
              have g4i := (hBi.cell (p := ⟨b2, off2 + k * 5 + 4, none⟩) hb2).trans g4
              have hb2i := Nat.lt_of_lt_of_le hb2 hBi.size
              have hmul : wrap64 (y.cr * puses) = y.cr * puses := by
                have h1 : y.cr * puses ≤ 60 * 5 := Int.mul_le_mul hyc1 hus.2 hus.1 (by decide)
                have h2 : 0 ≤ y.cr * puses := Int.mul_nonneg hyc0 hus.1
                unfold wrap64; omega
              clear hT g0 g1 g2 g3 g4 hb0o
              go_wp2
              go_region
              go_wp2
              go_roundw
              case rel => exact ⟨k + 1, hkl, by go_num, (bthen hBo hBi).drew⟩
              case measure => simp [intOf]; omega
        · obtain rfl : k = l.length := by omega
          clear hb0r
          go_wp2
          go_loopw [12] (fun i wp => ∃ k : Nat, k ≤ qs.length ∧ i = .int .i64 k ∧ Below wo.heap.size wo wp) (fun i _ => qs.length - (intOf i).toNat)
          case atStart => exact ⟨0, Nat.zero_le _, rfl, Below.refl _ _⟩
          case round =>
            obtain ⟨k, hk, rfl, hBp⟩ := hrel
            obtain ⟨wp, rfl⟩ : ∃ wp : World, wp = wr := ⟨_, rfl⟩
            have hzo : w.heap.size < wo.heap.size := by have := hBo.size; omega
            have hb0p : ∀ j : Nat, wp.cell? ⟨w.heap.size, j, none⟩ = _ := fun j => (hBp.cell (p := ⟨w.heap.size, j, none⟩) (by simp; omega)).trans (hb0o j)
            have hBwp : Below w.heap.size w wp := bthen hBw hBp
            by_cases hkl : k < qs.length
            · obtain ⟨y, b2, off2, B3, c3, hy, rfl, hb2, hc3, hr3, g0, g1, g2, g3, g4, g5⟩ := kReq_get (hq.below hBwp) hkl
              obtain ⟨hyc0, hyc1⟩ := hqc y (List.mem_of_getElem? hy.out)
              have hcap := asgB_R HT.out hy.out
              go_wp2
              go_loopw [13, 14] (fun n i wi => ∃ j : Nat, j ≤ us.length ∧ i = .int .i64 j ∧ n = .int .i64 (sumR (us.take j) k) ∧ Below wp.heap.size wp wi) (fun _ i _ => us.length - (intOf i).toNat)
              case atStart => exact ⟨0, Nat.zero_le _, rfl, rfl, Below.refl _ _⟩
              case round =>
                obtain ⟨j, hj, rfl, rfl, hBi⟩ := hrel
                obtain ⟨wi, rfl⟩ : ∃ wi : World, wi = wr := ⟨_, rfl⟩
                have hBwi : Below w.heap.size w wi := bthen hBwp hBi
                obtain ⟨T, hT⟩ : ∃ T, T = sumR (us.take j) k := ⟨_, rfl⟩
                have hTb := sum_bd (us := us.take j) (fun u hu => huc u (List.mem_of_mem_take hu)) (fun u => decide (u.r = (k : Int)))
                have hTb2 : 0 ≤ T ∧ T ≤ 60 * (us.take j).length := by rw [hT]; exact hTb
                have htl : (us.take j).length ≤ j := List.length_take_le _ _
                clear hTb
                obtain ⟨hTb0, hTb1⟩ := hTb2
                by_cases hjl : j < us.length
                · obtain ⟨x, b, off, hx, rfl, hb, f0, f1, f2⟩ := kUse_get (hu.below hBwi) hjl
                  have hxc := huc x (List.mem_of_getElem? hx.out)
                  have hts : Hid (sumR (us.take (j + 1)) k = T + (if x.r = (k : Int) then x.c else 0)) := by show _ = _; rw [take_snoc_get hx.out, sumR_snoc, hT]
                  rw [← hT]
                  have HT1 : Hid _ := hT
                  clear hT hx
                  by_cases hxa : x.r = (k : Int)
                  · have hts2 : Hid (sumR (us.take (j + 1)) k = T + x.c) := by show _ = _; rw [hts.out, if_pos hxa]
                    clear hts
                    go_wp2
                    go_roundw
                    case rel => exact ⟨j + 1, hjl, by go_num, by rw [hts2.out], hBi⟩
                    case measure => simp [intOf]; omega
                  · have hts2 : Hid (sumR (us.take (j + 1)) k = T) := by show _ = _; rw [hts.out, if_neg hxa]; simp
                    clear hts
                    go_wp2
                    go_roundw
                    case rel => exact ⟨j + 1, hjl, by go_num, by rw [hts2.out], hBi⟩
                    case measure => simp [intOf]; omega
                · obtain rfl : j = us.length := by omega
                  rw [List.take_length] at hT
                  rw [← hT] at hcap
                  rw [List.take_length, ← hT]
                  have hb0i : ∀ j : Nat, wi.cell? ⟨w.heap.size, j, none⟩ = _ := fun j => (hBi.cell (p := ⟨w.heap.size, j, none⟩) (by have := hBp.size; simp; omega)).trans (hb0p j)
                  have g1i := (hBi.cell (p := ⟨b2, _, none⟩) hb2).trans g1
                  have hb2i := Nat.lt_of_lt_of_le hb2 hBi.size
                  clear hT g0 g1 g2 g3 g4 g5 hb0p
                  go_wp2
                  go_roundw
                  case rel => exact ⟨k + 1, hkl, by go_num, bthen hBp hBi⟩
                  case measure => simp [intOf]; omega
            · obtain rfl : k = qs.length := by omega
              go_wp2
              go_ret
              exact ⟨rfl, hBwp⟩
end Go.Proofs.YtaiibchadlaifaaGreatDoor
