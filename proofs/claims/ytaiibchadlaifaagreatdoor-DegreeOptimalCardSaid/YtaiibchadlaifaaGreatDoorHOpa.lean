/-
  flow.Capacity of a cut in a valid network. Conditions: the edges and the cut read as data, the ends are valid, the cut parts them.
  An audit with its cut: what it tells of the network's capacity. Conditions: the arguments read as data, at most 60 attempts, all is valid.
  The reference's Assignment at whatever uses. Conditions: the arguments read as data, the credits are within their bounds.
  The law DegreeOptimal. Conditions: the arguments read as data.
-/
import Derived.Test.YtaiibchadlaifaaGreatDoorZh
set_option linter.unusedVariables false
set_option linter.unusedSimpArgs false

namespace Go.Proofs.YtaiibchadlaifaaGreatDoor
open Go.RowKit Go.Shelf
attribute [local go_sem] Oper.semAt_some

def cutB (bs : List Bool) (v : Int) : Bool := decide (0 ≤ v) && (bs[v.toNat]?).getD false
theorem cutB_nat {bs : List Bool} {k : Nat} {b : Bool} (h : bs[k]? = some b) : cutB bs k = b := by simp [cutB, h]
theorem cutOf_cutB (bys : List Int) : cutOf bys = cutB (bys.map fun x => decide (0 ≤ x)) := funext fun v => by
  unfold cutOf cutB
  rw [List.getElem?_map]
theorem capC_bd {C : Int → Bool} : ∀ {l : List Edge}, (∀ e, e ∈ l → 0 ≤ e.m ∧ e.m ≤ 1073741824) → 0 ≤ capC C l ∧ capC C l ≤ 1073741824 * l.length
  | [], _ => by simp [capC]
  | e :: l, h => by
    have ih := capC_bd (C := C) (l := l) (fun x hx => h x (by simp [hx]))
    have := h e (by simp)
    simp only [capC, List.length_cons]
    split <;> omega
theorem capC_take {C : Int → Bool} {l : List Edge} {k : Nat} {e : Edge} (h : l[k]? = some e) : capC C (l.take (k + 1)) = capC C (l.take k) + (if C e.f && !C e.t then e.m else 0) := by
  rw [take_snoc_get h, capC_append]
  simp only [capC]; omega

set_option maxRecDepth 100000 in
set_option maxHeartbeats 4000000 in
theorem flow_Capacity_c (n s t : Nat) (l : List Edge) (bs : List Bool) (A AB : Option Addr) (c cb : Nat) (w : World) (h : Rd kEdge w A l) (hb : Rd kB w AB bs) (he : endsE n s t l = 0) (hn : bs.length = n) (hs : bs[s]? = some true) (ht : bs[t]? = some false) :
    Calls Tryz.prog 31 #[.int .i64 n, .slice A l.length c, .int .i64 s, .int .i64 t, .slice AB n cb] w fun e w' => e = .returned (.tuple #[.int .i64 (capC (cutB bs) l), .int .i64 0]) ∧ Below w.heap.size w w' := by
  have hc := flow_check_c n s t l A c w h
  obtain ⟨hE, _, hsn, _, htn, _⟩ := ends_ok he
  obtain ⟨h2, h4096, hl64, hok⟩ := flowE_ok hE
  have hm : ∀ e, e ∈ l → 0 ≤ e.m ∧ e.m ≤ 1073741824 := fun e q => by have := hok e q; unfold edgeOk at this; simp at this; omega
  have hnod : ∀ e, e ∈ l → 0 ≤ e.f ∧ e.f < n ∧ 0 ≤ e.t ∧ e.t < n := fun e q => by have := hok e q; unfold edgeOk at this; simp at this; omega
  rw [he] at hc
  have hbs := hb
  have hs' := (List.getElem?_eq_some_iff.1 hs).1
  have ht' := (List.getElem?_eq_some_iff.1 ht).1
  obtain ⟨xs, bB, oB, hxs, hAB, hbB, cs⟩ := kB_get hb hs'
  obtain ⟨xt, bB2, oB2, hxt, hAB2, hbB2, ct⟩ := kB_get hb ht'
  obtain rfl : xs = true := by have := hxs.out.symm.trans hs; injection this
  obtain rfl : xt = false := by have := hxt.out.symm.trans ht; injection this
  subst hAB
  injection hAB2 with hAB2
  injection hAB2 with e1 e2
  subst e1 e2
  have HL : Hid (Rd kEdge w A l ∧ Rd kB w (some ⟨bB, oB, none⟩) bs ∧ (∀ e, e ∈ l → 0 ≤ e.m ∧ e.m ≤ 1073741824) ∧ (∀ e, e ∈ l → 0 ≤ e.f ∧ e.f < n ∧ 0 ≤ e.t ∧ e.t < n)) := ⟨h, hbs, hm, hnod⟩
  have hll := h.len
  clear h hb hbs hm hnod hok he hE hxs hxt
  go_enter Tryz.func31, Tryz.ntmps31
  go_wp2_with (go_at_call 72; refine hc.mono ?_; rintro e w1 ⟨rfl, hb1⟩; have cs1 := (hb1.cell (p := ⟨bB, oB + s, none⟩) hbB).trans cs; have ct1 := (hb1.cell (p := ⟨bB, oB + t, none⟩) hbB).trans ct)
  go_loopw [10, 14, 42] (fun m _ i wr => ∃ k : Nat, k ≤ l.length ∧ i = .int .i64 k ∧ m = .int .i64 (capC (cutB bs) (l.take k)) ∧ Below w.heap.size w wr) (fun _ _ i _ => l.length - (intOf i).toNat)
  case atStart => exact ⟨0, Nat.zero_le _, rfl, rfl, hb1⟩
  case round =>
    obtain ⟨k, hk, rfl, rfl, hBr⟩ := hrel
    obtain ⟨hA, hBb, hm, hnod⟩ := HL.out
    obtain ⟨T, hT⟩ : ∃ T, T = capC (cutB bs) (l.take k) := ⟨_, rfl⟩
    have hTb := capC_bd (C := cutB bs) (l := l.take k) (fun e q => hm e (List.mem_of_mem_take q))
    have htl : (l.take k).length ≤ k := List.length_take_le _ _
    have hT0 : 0 ≤ T ∧ T ≤ 70368744177664 := by rw [hT]; omega
    obtain ⟨hT1, hT2⟩ := hT0
    clear hTb htl
    by_cases hlt : k < l.length
    · obtain ⟨x, b, off, hx, rfl, hbl, f0, f1, f2⟩ := kEdge_get (hA.below hBr) hlt
      have hxm := hm x (List.mem_of_getElem? hx.out)
      have hxn := hnod x (List.mem_of_getElem? hx.out)
      have hstep := capC_take (C := cutB bs) hx.out
      rw [← hT] at hstep
      rw [← hT]
      obtain ⟨xf, xt, xm⟩ := x
      dsimp only at *
      obtain ⟨kf, rfl⟩ : ∃ kf : Nat, xf = kf := ⟨xf.toNat, by omega⟩
      obtain ⟨kt, rfl⟩ : ∃ kt : Nat, xt = kt := ⟨xt.toNat, by omega⟩
      obtain ⟨y, by', oy, hy, hAy, hby, cy⟩ := kB_get (hBb.below hBr) (show kf < bs.length by omega)
      obtain ⟨z, bz, oz, hz, hAz, hbz, cz⟩ := kB_get (hBb.below hBr) (show kt < bs.length by omega)
      injection hAy with hAy
      injection hAy with e1 e2
      subst e1 e2
      injection hAz with hAz
      injection hAz with e1 e2
      subst e1 e2
      rw [cutB_nat hy.out, cutB_nat hz.out] at hstep
      have h0f : (0 : Int) ≤ kf := by omega
      have h0t : (0 : Int) ≤ kt := by omega
      have hfn : (kf : Int) < n := hxn.2.1
      have htn2 : (kt : Int) < n := hxn.2.2.2
      obtain ⟨hm0, hm1⟩ := hxm
      have HT : Hid (T = capC (cutB bs) (l.take k)) := hT
      clear hT hA hBb hm hnod hx hy hz hxn
      have hnA := fun cs : Array Value => World.alloc_heap_new wr (.cells cs 85)
      cases y
      · have HS : Hid (capC (cutB bs) (l.take (k + 1)) = T) := by show _ = _; rw [hstep]; simp
        clear hstep
        go_wp2
        go_roundw
        case rel => exact ⟨k + 1, hlt, by go_num, by rw [HS.out], hBr.alloc (by have := hBr.size; omega) _⟩
        case measure => simp [intOf]; omega
      · cases z
        · have HS : Hid (capC (cutB bs) (l.take (k + 1)) = T + xm) := by show _ = _; rw [hstep]; simp
          clear hstep
          go_wp2
          go_roundw
          case rel => exact ⟨k + 1, hlt, by go_num, by rw [HS.out], hBr.alloc (by have := hBr.size; omega) _⟩
          case measure => simp [intOf]; omega
        · have HS : Hid (capC (cutB bs) (l.take (k + 1)) = T) := by show _ = _; rw [hstep]; simp
          clear hstep
          go_wp2
          go_roundw
          case rel => exact ⟨k + 1, hlt, by go_num, by rw [HS.out], hBr.alloc (by have := hBr.size; omega) _⟩
          case measure => simp [intOf]; omega
    · obtain rfl : k = l.length := by omega
      rw [List.take_length] at hT
      rw [List.take_length, ← hT]
      have HT : Hid (T = capC (cutB bs) l) := hT
      clear hA hBb hm hnod hT
      go_wp2
      exact bodyPost_ret (v := .tuple #[.int .i64 T, .int .i64 0]) (by simp [results, Tryz.results31, go_sem]) rfl ⟨by rw [HT.out], hBr⟩
end Go.Proofs.YtaiibchadlaifaaGreatDoor

namespace Go.Proofs.YtaiibchadlaifaaGreatDoor
open Go.RowKit Go.Shelf

def AuditC (p : Prg) (l : List Att) (N : Nat) (w w' : World) (e : Ending) : Prop :=
  ∃ AU nU cU cb bs x, e = .returned (.tuple #[.agg #[.slice AU nU cU, .int .i64 x, .slice (some ⟨cb, 0, none⟩) N N], .int .i64 0]) ∧ Rd kB w' (some ⟨cb, 0, none⟩) bs ∧ bs.length = N ∧ bs[0]? = some true ∧ bs[N - 1]? = some false ∧ capC (cutB bs) (netL p l) = totalC p.reqs - x ∧ MissP p l x ∧ Below w.heap.size w w'
theorem rd_bools {w : World} {B : Nat} {T : TypeId} {f : Nat × Nat} {bs : List Bool} (h : w.heap[B]? = some (.cells (bs.map Value.bool).toArray T f)) (hl : bs.length ≤ 9223372036854775807) : Rd kB w (some ⟨B, 0, none⟩) bs :=
  ⟨hl, fun _ => ⟨B, 0, rfl, fun i y hy => ⟨[.bool y], rfl, fun j v hj => by
    cases j with
    | succ j => simp at hj
    | zero =>
      obtain rfl : Value.bool y = v := by simpa using hj
      rw [blk_cell h]
      simp [kB, Kd.flat, hy]⟩⟩⟩
theorem degree_Audit_cut (w : World) (p : Prg) (l : List Att) (A Aq : Option Addr) (c cq : Nat) (hl : Rd kAtt w A l) (hq : Rd kReq w Aq p.reqs) (hm : l.length ≤ 60) (hE : netE p l = 0) :
    Calls Tryz.prog 21 #[.agg #[.string p.nm, .int .i64 p.num, .int .i64 p.uses, .int .i64 p.earn, .int .i64 p.mn, .int .i64 p.md, .slice Aq p.reqs.length cq], .slice A l.length c] w fun e w' => AuditC p l (2 + l.length + p.reqs.length) w w' e := by
  refine (degree_Audit_good w p l A Aq c cq hl hq hm hE).mono ?_
  rintro e w' ⟨F, bys, uv, cb, hspec, hbl, rfl, hown, hcb, hcut, hB⟩
  obtain ⟨AU, cU, rfl, hrd⟩ := rd_uses hown
  have hr64 := (prg_ok (netE_ok hE).1).2.2.1
  have hval := hspec.value (netL_nodes p l) (by omega) (by omega)
  have hs := hspec.hs
  have ht := hspec.ht
  rw [cutOf_cutB] at hs ht hval
  have hbl' : (bys.map fun x => decide (0 ≤ x)).length = 2 + l.length + p.reqs.length := by rw [List.length_map, hbl]
  have hcut' : w'.heap[cb]? = some (.cells (((bys.map fun x => decide (0 ≤ x)).map Value.bool).toArray) 4 (0, 0)) := by rw [hcut, List.map_map]; rfl
  have g0 := List.getElem?_eq_getElem (l := bys.map fun x => decide (0 ≤ x)) (i := 0) (by omega)
  have g1 := List.getElem?_eq_getElem (l := bys.map fun x => decide (0 ≤ x)) (i := 1 + l.length + p.reqs.length) (by omega)
  have e0 := cutB_nat g0
  have e1 := cutB_nat g1
  rw [show ((0 : Nat) : Int) = 0 from rfl, hs] at e0
  rw [ht] at e1
  rw [← e0] at g0
  rw [← e1] at g1
  refine ⟨AU, _, cU, cb, _, _, rfl, rd_bools hcut' (by omega), hbl', g0, ?_, ?_, ⟨F, _, hspec, ?_⟩, hB⟩
  · rw [show 2 + l.length + p.reqs.length - 1 = 1 + l.length + p.reqs.length by omega]; exact g1
  · rw [← hval, used_value hspec.ok (cons_cast hspec.cons)]; omega
  · rw [used_value hspec.ok (cons_cast hspec.cons)]
end Go.Proofs.YtaiibchadlaifaaGreatDoor

namespace Go.Proofs.YtaiibchadlaifaaGreatDoor
open Go.RowKit Go.Shelf

def all1 (qs : List Req) (l : List Att) (us : List Use) (k : Nat) : Prop := ∀ j, j < k → stepB qs l us j = true
theorem all_succ {qs : List Req} {l : List Att} {us : List Use} {k : Nat} (h : Hid (∀ j, j < k → stepB qs l us j = true)) (h2 : stepB qs l us k = true) : Hid (∀ j, j < k + 1 → stepB qs l us j = true) := fun j hj => by
  by_cases e : j = k
  · subst e; exact h2
  · exact h.out j (by omega)
theorem asgB_of {uses : Int} {qs : List Req} {l : List Att} {us : List Use} (h1 : ∀ j, j < us.length → stepB qs l us j = true) (h2 : ∀ j, j < l.length → capA uses l us j = true) (h3 : ∀ j, j < qs.length → capQ qs us j = true) : asgB uses qs l us = true := by
  unfold asgB
  rw [Bool.and_eq_true, Bool.and_eq_true, List.all_eq_true, List.all_eq_true, List.all_eq_true]
  exact ⟨⟨fun k hk => h1 k (List.mem_range.1 hk), fun k hk => h2 k (List.mem_range.1 hk)⟩, fun k hk => h3 k (List.mem_range.1 hk)⟩
theorem asgB_no1 {uses : Int} {qs : List Req} {l : List Att} {us : List Use} {k : Nat} (hk : k < us.length) (h : stepB qs l us k = false) : asgB uses qs l us = false := by
  unfold asgB; rw [range_all_false hk h]; simp
theorem asgB_no2 {uses : Int} {qs : List Req} {l : List Att} {us : List Use} {k : Nat} (hk : k < l.length) (h : capA uses l us k = false) : asgB uses qs l us = false := by
  unfold asgB; rw [range_all_false hk h]; simp
theorem asgB_no3 {uses : Int} {qs : List Req} {l : List Att} {us : List Use} {k : Nat} (hk : k < qs.length) (h : capQ qs us k = false) : asgB uses qs l us = false := by
  unfold asgB; rw [range_all_false hk h]; simp
theorem stepB_bad {qs : List Req} {l : List Att} {us : List Use} {k : Nat} {u : Use} (hk : us[k]? = some u) (h : useB qs l u = false) : stepB qs l us k = false := by
  unfold stepB; rw [hk]; simp [h]
theorem useB_a0 {qs : List Req} {l : List Att} {u : Use} (h : u.a < 0 ∨ l.length ≤ u.a ∨ u.r < 0 ∨ qs.length ≤ u.r ∨ u.c < 1) : useB qs l u = false := by
  rw [← Bool.not_eq_true]
  intro hu
  unfold useB at hu
  simp only [Bool.and_eq_true, decide_eq_true_eq] at hu
  omega
theorem useB_c0 {qs : List Req} {l : List Att} {u : Use} {i : Nat} {y : Att} (hi : u.a = i) (hy : l[i]? = some y) (h : y.cr < u.c) : useB qs l u = false := by
  rw [← Bool.not_eq_true]
  intro hu
  obtain ⟨ia, ir, y', z, h1, h2, h3, h4, h5, h6, h7⟩ := useB_spec hu
  obtain rfl : ia = i := by omega
  rw [hy] at h3
  obtain rfl := Option.some.inj h3
  omega
theorem useB_e0 {qs : List Req} {l : List Att} {u : Use} {i r : Nat} {y : Att} {z : Req} (hi : u.a = i) (hr : u.r = r) (hy : l[i]? = some y) (hz : qs[r]? = some z) (h : eligB z y = false) : useB qs l u = false := by
  rw [← Bool.not_eq_true]
  intro hu
  obtain ⟨ia, ir, y', z', h1, h2, h3, h4, h5, h6, h7⟩ := useB_spec hu
  obtain rfl : ia = i := by omega
  obtain rfl : ir = r := by omega
  rw [hy] at h3
  rw [hz] at h4
  obtain rfl := Option.some.inj h3
  obtain rfl := Option.some.inj h4
  rw [h] at h7; cases h7
theorem useB_ok {qs : List Req} {l : List Att} {u : Use} {i r : Nat} {y : Att} {z : Req} (hi : u.a = i) (hr : u.r = r) (hy : l[i]? = some y) (hz : qs[r]? = some z) (h : eligB z y = true) (h1 : 1 ≤ u.c) (h2 : u.c ≤ y.cr) : useB qs l u = true := by
  have e1 := (List.getElem?_eq_some_iff.1 hy).1
  have e2 := (List.getElem?_eq_some_iff.1 hz).1
  unfold useB
  rw [show u.a.toNat = i by omega, show u.r.toNat = r by omega, hy, hz]
  simp only [Option.elim_some, Bool.and_eq_true, decide_eq_true_eq]
  exact ⟨⟨⟨⟨⟨by omega, by omega⟩, by omega⟩, by omega⟩, h1⟩, h2, h⟩
theorem stepB_ok {qs : List Req} {l : List Att} {us : List Use} {k : Nat} {u : Use} (hk : us[k]? = some u) (h : useB qs l u = true) (h2 : k = 0 ∨ ∃ v, us[k - 1]? = some v ∧ useLt v u = true) : stepB qs l us k = true := by
  unfold stepB
  rw [hk]
  simp only [Option.elim_some, Bool.and_eq_true, Bool.or_eq_true, decide_eq_true_eq]
  refine ⟨h, h2.imp id ?_⟩
  rintro ⟨v, hv, hl⟩
  rw [hv]; exact hl
theorem stepB_lt {qs : List Req} {l : List Att} {us : List Use} {k : Nat} {u v : Use} (hk : us[k + 1]? = some u) (hv : us[k]? = some v) (h : useLt v u = false) : stepB qs l us (k + 1) = false := by
  unfold stepB
  rw [hk]
  simp only [Option.elim_some, Nat.add_sub_cancel, hv, h]
  simp
theorem stepB_use {qs : List Req} {l : List Att} {us : List Use} {k : Nat} {u : Use} (hk : us[k]? = some u) (h : stepB qs l us k = true) : useB qs l u = true := by
  unfold stepB at h; rw [hk] at h; simp only [Option.elim_some, Bool.and_eq_true] at h; exact h.1

set_option maxRecDepth 100000 in
set_option maxHeartbeats 32000000 in
theorem ref19_Assignment_c (w : World) (p : Prg) (l : List Att) (us : List Use) (Aq A Au : Option Addr) (cq c cu : Nat) (hq : Rd kReq w Aq p.reqs) (hl : Rd kAtt w A l) (hu : Rd kUse w Au us) (hqn : p.reqs.length ≤ 1000) (hln : l.length ≤ 1000) (hun : us.length ≤ 10000)
    (hqc : ∀ q, q ∈ p.reqs → 0 ≤ q.cr ∧ q.cr ≤ 10000) (hlc : ∀ a, a ∈ l → 0 ≤ a.cr ∧ a.cr ≤ 60) (hus : 0 ≤ p.uses ∧ p.uses ≤ 5) :
    Calls Tryz.prog 28 #[.agg #[.string p.nm, .int .i64 p.num, .int .i64 p.uses, .int .i64 p.earn, .int .i64 p.mn, .int .i64 p.md, .slice Aq p.reqs.length cq], .slice A l.length c, .slice Au us.length cu] w fun e w' => e = .returned (.bool (asgB p.uses p.reqs l us)) ∧ Below w.heap.size w w' := by
  have hlq := hq.len
  have hll := hl.len
  have hlu := hu.len
  obtain ⟨pnm, pnum, puses, pearn, pmn, pmd, qs⟩ := p
  dsimp only at *
  generalize hG : asgB puses qs l us = G
  have HG : Hid (asgB puses qs l us = G) := hG
  clear hG
  go_enter Tryz.func28, Tryz.ntmps28
  go_wp2
  have hB := below1 w (.cells #[.string pnm, .int .i64 pnum, .int .i64 puses, .int .i64 pearn, .int .i64 pmn, .int .i64 pmd, .slice Aq qs.length cq] 26)
  have hb0 := blk_cell (alloc1_blk w (.cells #[.string pnm, .int .i64 pnum, .int .i64 puses, .int .i64 pearn, .int .i64 pmn, .int .i64 pmd, .slice Aq qs.length cq] 26))
  have hz := World.size_alloc w (.cells #[.string pnm, .int .i64 pnum, .int .i64 puses, .int .i64 pearn, .int .i64 pmn, .int .i64 pmd, .slice Aq qs.length cq] 26)
  generalize w.alloc _ = W2 at *
  go_loopw [7, 8] (fun i _ wr => ∃ k : Nat, k ≤ us.length ∧ i = .int .i64 k ∧ Hid (∀ j, j < k → stepB qs l us j = true) ∧ Below W2.heap.size W2 wr) (fun i _ _ => us.length - (intOf i).toNat)
  case atStart => exact ⟨0, Nat.zero_le _, rfl, fun j hj => by omega, Below.refl _ _⟩
  case round =>
    obtain ⟨k, hk, rfl, H1, hBr⟩ := hrel
    have hb0r : ∀ j : Nat, wr.cell? ⟨w.heap.size, j, none⟩ = _ := fun j => (hBr.cell (p := ⟨w.heap.size, j, none⟩) (by simp; omega)).trans (hb0 j)
    clear hb0
    by_cases hlt : k < us.length
    · obtain ⟨x, b, off, hx, rfl, hb, f0, f1, f2⟩ := kUse_get ((hu.below hB).below hBr) hlt
      have HX : Hid (us[k]? = some x) := hx
      have hno : stepB qs l us k = false → G = false := fun h => HG.out.symm.trans (asgB_no1 hlt h)
      have HNO : Hid (stepB qs l us k = false → G = false) := hno
      clear hx hno
      obtain ⟨xa, xr, xc⟩ := x
      dsimp only at f0 f1 f2
      have hzr : w.heap.size < wr.heap.size := by have := hBr.size; omega
      have hBr3 : Below w.heap.size w wr := bthen hB hBr
      go_wp2
      have hd3 := below1 wr (.cells #[.int .i64 xa, .int .i64 xr, .int .i64 xc] 95)
      have hy3 := World.alloc_heap_new wr (.cells #[.int .i64 xa, .int .i64 xr, .int .i64 xc] 95)
      have hs3 := World.size_alloc wr (.cells #[.int .i64 xa, .int .i64 xr, .int .i64 xc] 95)
      have hBw3 : Below w.heap.size w (wr.alloc (.cells #[.int .i64 xa, .int .i64 xr, .int .i64 xc] 95)) := bthen hBr3 hd3
      have hB23 : Below W2.heap.size W2 (wr.alloc (.cells #[.int .i64 xa, .int .i64 xr, .int .i64 xc] 95)) := bthen hBr hd3
      generalize wr.alloc _ = w3 at *
      have d0 := blk_cell hy3 0
      have d1 := blk_cell hy3 1
      have d2 := blk_cell hy3 2
      have hb03 : ∀ j : Nat, w3.cell? ⟨w.heap.size, j, none⟩ = _ := fun j => (hd3.cell (p := ⟨w.heap.size, j, none⟩) (by simp; omega)).trans (hb0r j)
      have hzY : wr.heap.size < w3.heap.size := by omega
      have hBd : Below w.heap.size w w3.drew := hBw3.drew
      have hB2d : Below W2.heap.size W2 w3.drew := hB23.drew
      have hql3 := hq.below hBw3
      have hll3 := hl.below hBw3
      clear hy3 hb0r hd3 f0 f1 f2 hBr hBr3
      generalize wr.heap.size = Y at *
      by_cases c1 : xa < 0
      · clear hql3 hll3
        refine wp_region_G 51 (fun w' => w' = w3.drew) (by kernel_rfl) (by kernel_rfl) (by intro d v c a w h; cases d <;> exact h) rfl ?_
        iterate 51 (
          first
            | refine wpG_next rfl (by kernel_rfl) (.inr ⟨by rfl, rfl⟩) ?_
            | (refine wpG_next (v := ?_) rfl (by kernel_rfl) (.inl ⟨by rfl, ?hy⟩) ?_
               case hy => (rintro w' rfl; simp only [List.getElem_toArray, List.getElem_cons_succ, List.getElem_cons_zero]; go_simp; try with_reducible rfl))
          simp only [List.getElem_toArray, List.getElem_cons_succ, List.getElem_cons_zero, Act.put, List.setIfInBounds_toArray, List.set_cons_zero, List.set_cons_succ, Nat.reduceAdd, Nat.reduceSub])
        refine wpG_done (by kernel_rfl) ?_
        simp only [List.drop_succ_cons, List.drop_zero]
        go_wp2
        go_ret
        exact ⟨ret_congr (by rw [HNO.out (stepB_bad HX.out (useB_a0 (by dsimp only; omega)))]; rfl), hBd⟩
      by_cases c2 : (l.length : Int) ≤ xa
      · clear hql3 hll3
        refine wp_region_G 51 (fun w' => w' = w3.drew) (by kernel_rfl) (by kernel_rfl) (by intro d v c a w h; cases d <;> exact h) rfl ?_
        iterate 51 (
          first
            | refine wpG_next rfl (by kernel_rfl) (.inr ⟨by rfl, rfl⟩) ?_
            | (refine wpG_next (v := ?_) rfl (by kernel_rfl) (.inl ⟨by rfl, ?hy⟩) ?_
               case hy => (rintro w' rfl; simp only [List.getElem_toArray, List.getElem_cons_succ, List.getElem_cons_zero]; go_simp; try with_reducible rfl))
          simp only [List.getElem_toArray, List.getElem_cons_succ, List.getElem_cons_zero, Act.put, List.setIfInBounds_toArray, List.set_cons_zero, List.set_cons_succ, Nat.reduceAdd, Nat.reduceSub])
        refine wpG_done (by kernel_rfl) ?_
        simp only [List.drop_succ_cons, List.drop_zero]
        go_wp2
        go_ret
        exact ⟨ret_congr (by rw [HNO.out (stepB_bad HX.out (useB_a0 (by dsimp only; omega)))]; rfl), hBd⟩
      obtain ⟨ia, rfl⟩ : ∃ ia : Nat, xa = ia := ⟨xa.toNat, by omega⟩
      have e2 : ia < l.length := by omega
      by_cases c3 : xr < 0
      · clear hql3 hll3
        refine wp_region_G 51 (fun w' => w' = w3.drew) (by kernel_rfl) (by kernel_rfl) (by intro d v c a w h; cases d <;> exact h) rfl ?_
        iterate 51 (
          first
            | refine wpG_next rfl (by kernel_rfl) (.inr ⟨by rfl, rfl⟩) ?_
            | (refine wpG_next (v := ?_) rfl (by kernel_rfl) (.inl ⟨by rfl, ?hy⟩) ?_
               case hy => (rintro w' rfl; simp only [List.getElem_toArray, List.getElem_cons_succ, List.getElem_cons_zero]; go_simp; try with_reducible rfl))
          simp only [List.getElem_toArray, List.getElem_cons_succ, List.getElem_cons_zero, Act.put, List.setIfInBounds_toArray, List.set_cons_zero, List.set_cons_succ, Nat.reduceAdd, Nat.reduceSub])
        refine wpG_done (by kernel_rfl) ?_
        simp only [List.drop_succ_cons, List.drop_zero]
        go_wp2
        go_ret
        exact ⟨ret_congr (by rw [HNO.out (stepB_bad HX.out (useB_a0 (by dsimp only; omega)))]; rfl), hBd⟩
      by_cases c4 : (qs.length : Int) ≤ xr
      · clear hql3 hll3
        refine wp_region_G 51 (fun w' => w' = w3.drew) (by kernel_rfl) (by kernel_rfl) (by intro d v c a w h; cases d <;> exact h) rfl ?_
        iterate 51 (
          first
            | refine wpG_next rfl (by kernel_rfl) (.inr ⟨by rfl, rfl⟩) ?_
            | (refine wpG_next (v := ?_) rfl (by kernel_rfl) (.inl ⟨by rfl, ?hy⟩) ?_
               case hy => (rintro w' rfl; simp only [List.getElem_toArray, List.getElem_cons_succ, List.getElem_cons_zero]; go_simp; try with_reducible rfl))
          simp only [List.getElem_toArray, List.getElem_cons_succ, List.getElem_cons_zero, Act.put, List.setIfInBounds_toArray, List.set_cons_zero, List.set_cons_succ, Nat.reduceAdd, Nat.reduceSub])
        refine wpG_done (by kernel_rfl) ?_
        simp only [List.drop_succ_cons, List.drop_zero]
        go_wp2
        go_ret
        exact ⟨ret_congr (by rw [HNO.out (stepB_bad HX.out (useB_a0 (by dsimp only; omega)))]; rfl), hBd⟩
      obtain ⟨ir, rfl⟩ : ∃ ir : Nat, xr = ir := ⟨xr.toNat, by omega⟩
      have e4 : ir < qs.length := by omega
      by_cases c5 : xc < 1
      · clear hql3 hll3
        refine wp_region_G 51 (fun w' => w' = w3.drew) (by kernel_rfl) (by kernel_rfl) (by intro d v c a w h; cases d <;> exact h) rfl ?_
        iterate 51 (
          first
            | refine wpG_next rfl (by kernel_rfl) (.inr ⟨by rfl, rfl⟩) ?_
            | (refine wpG_next (v := ?_) rfl (by kernel_rfl) (.inl ⟨by rfl, ?hy⟩) ?_
               case hy => (rintro w' rfl; simp only [List.getElem_toArray, List.getElem_cons_succ, List.getElem_cons_zero]; go_simp; try with_reducible rfl))
          simp only [List.getElem_toArray, List.getElem_cons_succ, List.getElem_cons_zero, Act.put, List.setIfInBounds_toArray, List.set_cons_zero, List.set_cons_succ, Nat.reduceAdd, Nat.reduceSub])
        refine wpG_done (by kernel_rfl) ?_
        simp only [List.drop_succ_cons, List.drop_zero]
        go_wp2
        go_ret
        exact ⟨ret_congr (by rw [HNO.out (stepB_bad HX.out (useB_a0 (by dsimp only; omega)))]; rfl), hBd⟩
      obtain ⟨y, b2, off2, hy, hAa, hb2, g0, g1, g2, g3, g4⟩ := kAtt_get hll3 e2
      subst hAa
      have HY : Hid (l[ia]? = some y) := hy
      obtain ⟨hyc0, hyc1⟩ := hlc y (List.mem_of_getElem? hy.out)
      clear hy hll3
      have hia : (0 : Int) ≤ ia := by omega
      have hia2 : (ia : Int) < l.length := by omega
      have hir : (0 : Int) ≤ ir := by omega
      have hir2 : (ir : Int) < qs.length := by omega
      by_cases c6 : y.cr < xc
      · clear hql3
        refine wp_region_G 51 (fun w' => w' = w3.drew) (by kernel_rfl) (by kernel_rfl) (by intro d v c a w h; cases d <;> exact h) rfl ?_
        iterate 51 (
          first
            | refine wpG_next rfl (by kernel_rfl) (.inr ⟨by rfl, rfl⟩) ?_
            | (refine wpG_next (v := ?_) rfl (by kernel_rfl) (.inl ⟨by rfl, ?hy⟩) ?_
               case hy => (rintro w' rfl; simp only [List.getElem_toArray, List.getElem_cons_succ, List.getElem_cons_zero]; go_simp; try with_reducible rfl))
          simp only [List.getElem_toArray, List.getElem_cons_succ, List.getElem_cons_zero, Act.put, List.setIfInBounds_toArray, List.set_cons_zero, List.set_cons_succ, Nat.reduceAdd, Nat.reduceSub])
        refine wpG_done (by kernel_rfl) ?_
        simp only [List.drop_succ_cons, List.drop_zero]
        go_wp2
        go_ret
        exact ⟨ret_congr (by rw [HNO.out (stepB_bad HX.out (useB_c0 rfl HY.out c6))]; rfl), hBd⟩
      obtain ⟨z, b3, off3, B3, c3', hz3, hAq, hb3, hc3, hr3, k0, k1, k2, k3, k4, k5⟩ := kReq_get hql3 e4
      subst hAq
      have HZ : Hid (qs[ir]? = some z) := hz3
      have hft3 := ref19_fits_c w3.drew z y B3 c3' (hr3.below (below_drewN w3 1))
      have HE : Hid (∃ b, eligB z y = b) := ⟨_, rfl⟩
      clear hz3 hql3 hr3 hc3
      generalize hel : eligB z y = el at hft3
      have HEL : Hid (eligB z y = el) := hel
      clear hel HE
      refine wp_region_G 51 (fun w' => w' = w3.drew) (by kernel_rfl) (by kernel_rfl) (by intro d v c a w h; cases d <;> exact h) rfl ?_
      iterate 51 (
        first
          | refine wpG_next rfl (by kernel_rfl) (.inr ⟨by rfl, rfl⟩) ?_
          | (refine wpG_next (v := ?_) rfl (by kernel_rfl) (.inl ⟨by rfl, ?hy⟩) ?_
             case hy => (rintro w' rfl; simp only [List.getElem_toArray, List.getElem_cons_succ, List.getElem_cons_zero]; go_simp; try with_reducible rfl))
        simp only [List.getElem_toArray, List.getElem_cons_succ, List.getElem_cons_zero, Act.put, List.setIfInBounds_toArray, List.set_cons_zero, List.set_cons_succ, Nat.reduceAdd, Nat.reduceSub])
      refine wpG_done (by kernel_rfl) ?_
      simp only [List.drop_succ_cons, List.drop_zero]
      go_wp2_with (go_at_call 41; refine hft3.mono ?_; refine stopHere ?_)
      unfold Stopped
      rintro e w5 rfl hb5
      have hb5 : Below w3.drew.heap.size w3.drew w5 := by show Below w3.heap.size _ _; rw [hs3]; exact hb5
      have hBw5 : Below w.heap.size w w5 := bthen hBd hb5
      have hB25 : Below W2.heap.size W2 w5 := bthen hB2d hb5
      have e0 : w5.cell? ⟨Y, 0, none⟩ = some (.int .i64 ia) := (hb5.cell (p := ⟨Y, 0, none⟩) (show Y < w3.heap.size by omega)).trans d0
      have e1 : w5.cell? ⟨Y, 1, none⟩ = some (.int .i64 ir) := (hb5.cell (p := ⟨Y, 1, none⟩) (show Y < w3.heap.size by omega)).trans d1
      have hb5z := hb5.size
      clear hft3 d0 d1 d2 g0 g1 g2 g3 g4 k0 k1 k2 k3 k4 k5 hb03 hb5 hBd hB2d hBw3 hB23
      cases el with
      | false =>
        go_wp2
        go_ret
        exact ⟨ret_congr (by rw [HNO.out (stepB_bad HX.out (useB_e0 rfl rfl HY.out HZ.out HEL.out))]; rfl), hBw5⟩
      | true =>
        have HU : Hid (useB qs l ⟨ia, ir, xc⟩ = true) := useB_ok rfl rfl HY.out HZ.out HEL.out (by dsimp only; omega) (by dsimp only; omega)
        clear HY HZ HEL
        rcases Nat.eq_zero_or_pos k with rfl | hkp
        · go_wp2
          refine wp_region_G 34 (fun w' => w' = w5.drew) (by kernel_rfl) (by kernel_rfl) (by intro d v c a w h; cases d <;> exact h) rfl ?_
          iterate 34 (
            first
              | refine wpG_next rfl (by kernel_rfl) (.inr ⟨by rfl, rfl⟩) ?_
              | (refine wpG_next (v := ?_) rfl (by kernel_rfl) (.inl ⟨by rfl, ?hy⟩) ?_
                 case hy => (rintro w' rfl; simp only [List.getElem_toArray, List.getElem_cons_succ, List.getElem_cons_zero]; go_simp; try with_reducible rfl))
            simp only [List.getElem_toArray, List.getElem_cons_succ, List.getElem_cons_zero, Act.put, List.setIfInBounds_toArray, List.set_cons_zero, List.set_cons_succ, Nat.reduceAdd, Nat.reduceSub])
          refine wpG_done (by kernel_rfl) ?_
          simp only [List.drop_succ_cons, List.drop_zero]
          go_wp2
          go_roundw
          case rel => exact ⟨1, by omega, by go_num, all_succ H1 (stepB_ok HX.out HU.out (.inl rfl)), hB25.drew⟩
          case measure => simp [intOf]; omega
        · obtain ⟨m, rfl⟩ : ∃ m, k = m + 1 := ⟨k - 1, by omega⟩
          obtain ⟨v, bv, ov, hv, hAv, hbv, q0, q1, q2⟩ := kUse_get (hu.below hBw5) (show m < us.length by omega)
          injection hAv with hAv
          injection hAv with q4 q5
          subst q4 q5
          have HV : Hid (us[m]? = some v) := hv
          obtain ⟨va, vr, vc⟩ := v
          dsimp only at q0 q1 q2
          have hwr : Hid (wrap64 ((m : Int) + 1 - 1) = m) := by show _ = _; unfold wrap64; omega
          clear hv
          have hm0 : (0 : Int) ≤ m := by omega
          have hm1 : (m : Int) < us.length := by omega
          by_cases s1 : (ia : Int) < va
          · skip
            go_wp2
            refine wp_region_G 34 (fun w' => w' = w5.drew) (by kernel_rfl) (by kernel_rfl) (by intro d v c a w h; cases d <;> exact h) rfl ?_
            iterate 5 (
              first
                | refine wpG_next rfl (by kernel_rfl) (.inr ⟨by rfl, rfl⟩) ?_
                | (refine wpG_next (v := ?_) rfl (by kernel_rfl) (.inl ⟨by rfl, ?hy⟩) ?_
                   case hy => (rintro w' rfl; simp only [List.getElem_toArray, List.getElem_cons_succ, List.getElem_cons_zero]; go_simp; try with_reducible rfl))
              simp only [List.getElem_toArray, List.getElem_cons_succ, List.getElem_cons_zero, Act.put, List.setIfInBounds_toArray, List.set_cons_zero, List.set_cons_succ, Nat.reduceAdd, Nat.reduceSub])
            first
              | refine wpG_next rfl (by kernel_rfl) (.inr ⟨by rfl, rfl⟩) ?_
              | (refine wpG_next (v := .int .i64 m) rfl (by kernel_rfl) (.inl ⟨by rfl, ?hy⟩) ?_
                 case hy => (rintro w' rfl; have hw := hwr.out; simp only [List.getElem_toArray, List.getElem_cons_succ, List.getElem_cons_zero]; go_simp; try (first | (simp [hw]; done) | (simp [IntKind.wrap, IntKind.bits, IntKind.signed]; omega) | omega)))
            simp only [List.getElem_toArray, List.getElem_cons_succ, List.getElem_cons_zero, Act.put, List.setIfInBounds_toArray, List.set_cons_zero, List.set_cons_succ, Nat.reduceAdd, Nat.reduceSub]
            iterate 9 (
              first
                | refine wpG_next rfl (by kernel_rfl) (.inr ⟨by rfl, rfl⟩) ?_
                | (refine wpG_next (v := ?_) rfl (by kernel_rfl) (.inl ⟨by rfl, ?hy⟩) ?_
                   case hy => (rintro w' rfl; simp only [List.getElem_toArray, List.getElem_cons_succ, List.getElem_cons_zero]; go_simp; try with_reducible rfl))
              simp only [List.getElem_toArray, List.getElem_cons_succ, List.getElem_cons_zero, Act.put, List.setIfInBounds_toArray, List.set_cons_zero, List.set_cons_succ, Nat.reduceAdd, Nat.reduceSub])
            first
              | refine wpG_next rfl (by kernel_rfl) (.inr ⟨by rfl, rfl⟩) ?_
              | (refine wpG_next (v := .int .i64 m) rfl (by kernel_rfl) (.inl ⟨by rfl, ?hy⟩) ?_
                 case hy => (rintro w' rfl; have hw := hwr.out; simp only [List.getElem_toArray, List.getElem_cons_succ, List.getElem_cons_zero]; go_simp; try (first | (simp [hw]; done) | (simp [IntKind.wrap, IntKind.bits, IntKind.signed]; omega) | omega)))
            simp only [List.getElem_toArray, List.getElem_cons_succ, List.getElem_cons_zero, Act.put, List.setIfInBounds_toArray, List.set_cons_zero, List.set_cons_succ, Nat.reduceAdd, Nat.reduceSub]
            iterate 9 (
              first
                | refine wpG_next rfl (by kernel_rfl) (.inr ⟨by rfl, rfl⟩) ?_
                | (refine wpG_next (v := ?_) rfl (by kernel_rfl) (.inl ⟨by rfl, ?hy⟩) ?_
                   case hy => (rintro w' rfl; simp only [List.getElem_toArray, List.getElem_cons_succ, List.getElem_cons_zero]; go_simp; try with_reducible rfl))
              simp only [List.getElem_toArray, List.getElem_cons_succ, List.getElem_cons_zero, Act.put, List.setIfInBounds_toArray, List.set_cons_zero, List.set_cons_succ, Nat.reduceAdd, Nat.reduceSub])
            first
              | refine wpG_next rfl (by kernel_rfl) (.inr ⟨by rfl, rfl⟩) ?_
              | (refine wpG_next (v := .int .i64 m) rfl (by kernel_rfl) (.inl ⟨by rfl, ?hy⟩) ?_
                 case hy => (rintro w' rfl; have hw := hwr.out; simp only [List.getElem_toArray, List.getElem_cons_succ, List.getElem_cons_zero]; go_simp; try (first | (simp [hw]; done) | (simp [IntKind.wrap, IntKind.bits, IntKind.signed]; omega) | omega)))
            simp only [List.getElem_toArray, List.getElem_cons_succ, List.getElem_cons_zero, Act.put, List.setIfInBounds_toArray, List.set_cons_zero, List.set_cons_succ, Nat.reduceAdd, Nat.reduceSub]
            iterate 8 (
              first
                | refine wpG_next rfl (by kernel_rfl) (.inr ⟨by rfl, rfl⟩) ?_
                | (refine wpG_next (v := ?_) rfl (by kernel_rfl) (.inl ⟨by rfl, ?hy⟩) ?_
                   case hy => (rintro w' rfl; simp only [List.getElem_toArray, List.getElem_cons_succ, List.getElem_cons_zero]; go_simp; try with_reducible rfl))
              simp only [List.getElem_toArray, List.getElem_cons_succ, List.getElem_cons_zero, Act.put, List.setIfInBounds_toArray, List.set_cons_zero, List.set_cons_succ, Nat.reduceAdd, Nat.reduceSub])
            refine wpG_done (by kernel_rfl) ?_
            simp only [List.drop_succ_cons, List.drop_zero]
            go_wp2
            go_ret
            exact ⟨ret_congr (by rw [HNO.out (stepB_lt HX.out HV.out (by simp [useLt]; omega))]; rfl), hBw5.drew⟩
          by_cases s2 : va = (ia : Int)
          · subst s2
            by_cases s3 : (ir : Int) ≤ vr
            · skip
              go_wp2
              refine wp_region_G 34 (fun w' => w' = w5.drew) (by kernel_rfl) (by kernel_rfl) (by intro d v c a w h; cases d <;> exact h) rfl ?_
              iterate 5 (
                first
                  | refine wpG_next rfl (by kernel_rfl) (.inr ⟨by rfl, rfl⟩) ?_
                  | (refine wpG_next (v := ?_) rfl (by kernel_rfl) (.inl ⟨by rfl, ?hy⟩) ?_
                     case hy => (rintro w' rfl; simp only [List.getElem_toArray, List.getElem_cons_succ, List.getElem_cons_zero]; go_simp; try with_reducible rfl))
                simp only [List.getElem_toArray, List.getElem_cons_succ, List.getElem_cons_zero, Act.put, List.setIfInBounds_toArray, List.set_cons_zero, List.set_cons_succ, Nat.reduceAdd, Nat.reduceSub])
              first
                | refine wpG_next rfl (by kernel_rfl) (.inr ⟨by rfl, rfl⟩) ?_
                | (refine wpG_next (v := .int .i64 m) rfl (by kernel_rfl) (.inl ⟨by rfl, ?hy⟩) ?_
                   case hy => (rintro w' rfl; have hw := hwr.out; simp only [List.getElem_toArray, List.getElem_cons_succ, List.getElem_cons_zero]; go_simp; try (first | (simp [hw]; done) | (simp [IntKind.wrap, IntKind.bits, IntKind.signed]; omega) | omega)))
              simp only [List.getElem_toArray, List.getElem_cons_succ, List.getElem_cons_zero, Act.put, List.setIfInBounds_toArray, List.set_cons_zero, List.set_cons_succ, Nat.reduceAdd, Nat.reduceSub]
              iterate 9 (
                first
                  | refine wpG_next rfl (by kernel_rfl) (.inr ⟨by rfl, rfl⟩) ?_
                  | (refine wpG_next (v := ?_) rfl (by kernel_rfl) (.inl ⟨by rfl, ?hy⟩) ?_
                     case hy => (rintro w' rfl; simp only [List.getElem_toArray, List.getElem_cons_succ, List.getElem_cons_zero]; go_simp; try with_reducible rfl))
                simp only [List.getElem_toArray, List.getElem_cons_succ, List.getElem_cons_zero, Act.put, List.setIfInBounds_toArray, List.set_cons_zero, List.set_cons_succ, Nat.reduceAdd, Nat.reduceSub])
              first
                | refine wpG_next rfl (by kernel_rfl) (.inr ⟨by rfl, rfl⟩) ?_
                | (refine wpG_next (v := .int .i64 m) rfl (by kernel_rfl) (.inl ⟨by rfl, ?hy⟩) ?_
                   case hy => (rintro w' rfl; have hw := hwr.out; simp only [List.getElem_toArray, List.getElem_cons_succ, List.getElem_cons_zero]; go_simp; try (first | (simp [hw]; done) | (simp [IntKind.wrap, IntKind.bits, IntKind.signed]; omega) | omega)))
              simp only [List.getElem_toArray, List.getElem_cons_succ, List.getElem_cons_zero, Act.put, List.setIfInBounds_toArray, List.set_cons_zero, List.set_cons_succ, Nat.reduceAdd, Nat.reduceSub]
              iterate 9 (
                first
                  | refine wpG_next rfl (by kernel_rfl) (.inr ⟨by rfl, rfl⟩) ?_
                  | (refine wpG_next (v := ?_) rfl (by kernel_rfl) (.inl ⟨by rfl, ?hy⟩) ?_
                     case hy => (rintro w' rfl; simp only [List.getElem_toArray, List.getElem_cons_succ, List.getElem_cons_zero]; go_simp; try with_reducible rfl))
                simp only [List.getElem_toArray, List.getElem_cons_succ, List.getElem_cons_zero, Act.put, List.setIfInBounds_toArray, List.set_cons_zero, List.set_cons_succ, Nat.reduceAdd, Nat.reduceSub])
              first
                | refine wpG_next rfl (by kernel_rfl) (.inr ⟨by rfl, rfl⟩) ?_
                | (refine wpG_next (v := .int .i64 m) rfl (by kernel_rfl) (.inl ⟨by rfl, ?hy⟩) ?_
                   case hy => (rintro w' rfl; have hw := hwr.out; simp only [List.getElem_toArray, List.getElem_cons_succ, List.getElem_cons_zero]; go_simp; try (first | (simp [hw]; done) | (simp [IntKind.wrap, IntKind.bits, IntKind.signed]; omega) | omega)))
              simp only [List.getElem_toArray, List.getElem_cons_succ, List.getElem_cons_zero, Act.put, List.setIfInBounds_toArray, List.set_cons_zero, List.set_cons_succ, Nat.reduceAdd, Nat.reduceSub]
              iterate 8 (
                first
                  | refine wpG_next rfl (by kernel_rfl) (.inr ⟨by rfl, rfl⟩) ?_
                  | (refine wpG_next (v := ?_) rfl (by kernel_rfl) (.inl ⟨by rfl, ?hy⟩) ?_
                     case hy => (rintro w' rfl; simp only [List.getElem_toArray, List.getElem_cons_succ, List.getElem_cons_zero]; go_simp; try with_reducible rfl))
                simp only [List.getElem_toArray, List.getElem_cons_succ, List.getElem_cons_zero, Act.put, List.setIfInBounds_toArray, List.set_cons_zero, List.set_cons_succ, Nat.reduceAdd, Nat.reduceSub])
              refine wpG_done (by kernel_rfl) ?_
              simp only [List.drop_succ_cons, List.drop_zero]
              go_wp2
              go_ret
              exact ⟨ret_congr (by rw [HNO.out (stepB_lt HX.out HV.out (by simp [useLt]; omega))]; rfl), hBw5.drew⟩
            · skip
              have HS : Hid (stepB qs l us (m + 1) = true) := stepB_ok HX.out HU.out (.inr ⟨_, HV.out, by simp [useLt]; omega⟩)
              go_wp2
              refine wp_region_G 34 (fun w' => w' = w5.drew) (by kernel_rfl) (by kernel_rfl) (by intro d v c a w h; cases d <;> exact h) rfl ?_
              iterate 5 (
                first
                  | refine wpG_next rfl (by kernel_rfl) (.inr ⟨by rfl, rfl⟩) ?_
                  | (refine wpG_next (v := ?_) rfl (by kernel_rfl) (.inl ⟨by rfl, ?hy⟩) ?_
                     case hy => (rintro w' rfl; simp only [List.getElem_toArray, List.getElem_cons_succ, List.getElem_cons_zero]; go_simp; try with_reducible rfl))
                simp only [List.getElem_toArray, List.getElem_cons_succ, List.getElem_cons_zero, Act.put, List.setIfInBounds_toArray, List.set_cons_zero, List.set_cons_succ, Nat.reduceAdd, Nat.reduceSub])
              first
                | refine wpG_next rfl (by kernel_rfl) (.inr ⟨by rfl, rfl⟩) ?_
                | (refine wpG_next (v := .int .i64 m) rfl (by kernel_rfl) (.inl ⟨by rfl, ?hy⟩) ?_
                   case hy => (rintro w' rfl; have hw := hwr.out; simp only [List.getElem_toArray, List.getElem_cons_succ, List.getElem_cons_zero]; go_simp; try (first | (simp [hw]; done) | (simp [IntKind.wrap, IntKind.bits, IntKind.signed]; omega) | omega)))
              simp only [List.getElem_toArray, List.getElem_cons_succ, List.getElem_cons_zero, Act.put, List.setIfInBounds_toArray, List.set_cons_zero, List.set_cons_succ, Nat.reduceAdd, Nat.reduceSub]
              iterate 9 (
                first
                  | refine wpG_next rfl (by kernel_rfl) (.inr ⟨by rfl, rfl⟩) ?_
                  | (refine wpG_next (v := ?_) rfl (by kernel_rfl) (.inl ⟨by rfl, ?hy⟩) ?_
                     case hy => (rintro w' rfl; simp only [List.getElem_toArray, List.getElem_cons_succ, List.getElem_cons_zero]; go_simp; try with_reducible rfl))
                simp only [List.getElem_toArray, List.getElem_cons_succ, List.getElem_cons_zero, Act.put, List.setIfInBounds_toArray, List.set_cons_zero, List.set_cons_succ, Nat.reduceAdd, Nat.reduceSub])
              first
                | refine wpG_next rfl (by kernel_rfl) (.inr ⟨by rfl, rfl⟩) ?_
                | (refine wpG_next (v := .int .i64 m) rfl (by kernel_rfl) (.inl ⟨by rfl, ?hy⟩) ?_
                   case hy => (rintro w' rfl; have hw := hwr.out; simp only [List.getElem_toArray, List.getElem_cons_succ, List.getElem_cons_zero]; go_simp; try (first | (simp [hw]; done) | (simp [IntKind.wrap, IntKind.bits, IntKind.signed]; omega) | omega)))
              simp only [List.getElem_toArray, List.getElem_cons_succ, List.getElem_cons_zero, Act.put, List.setIfInBounds_toArray, List.set_cons_zero, List.set_cons_succ, Nat.reduceAdd, Nat.reduceSub]
              iterate 9 (
                first
                  | refine wpG_next rfl (by kernel_rfl) (.inr ⟨by rfl, rfl⟩) ?_
                  | (refine wpG_next (v := ?_) rfl (by kernel_rfl) (.inl ⟨by rfl, ?hy⟩) ?_
                     case hy => (rintro w' rfl; simp only [List.getElem_toArray, List.getElem_cons_succ, List.getElem_cons_zero]; go_simp; try with_reducible rfl))
                simp only [List.getElem_toArray, List.getElem_cons_succ, List.getElem_cons_zero, Act.put, List.setIfInBounds_toArray, List.set_cons_zero, List.set_cons_succ, Nat.reduceAdd, Nat.reduceSub])
              first
                | refine wpG_next rfl (by kernel_rfl) (.inr ⟨by rfl, rfl⟩) ?_
                | (refine wpG_next (v := .int .i64 m) rfl (by kernel_rfl) (.inl ⟨by rfl, ?hy⟩) ?_
                   case hy => (rintro w' rfl; have hw := hwr.out; simp only [List.getElem_toArray, List.getElem_cons_succ, List.getElem_cons_zero]; go_simp; try (first | (simp [hw]; done) | (simp [IntKind.wrap, IntKind.bits, IntKind.signed]; omega) | omega)))
              simp only [List.getElem_toArray, List.getElem_cons_succ, List.getElem_cons_zero, Act.put, List.setIfInBounds_toArray, List.set_cons_zero, List.set_cons_succ, Nat.reduceAdd, Nat.reduceSub]
              iterate 8 (
                first
                  | refine wpG_next rfl (by kernel_rfl) (.inr ⟨by rfl, rfl⟩) ?_
                  | (refine wpG_next (v := ?_) rfl (by kernel_rfl) (.inl ⟨by rfl, ?hy⟩) ?_
                     case hy => (rintro w' rfl; simp only [List.getElem_toArray, List.getElem_cons_succ, List.getElem_cons_zero]; go_simp; try with_reducible rfl))
                simp only [List.getElem_toArray, List.getElem_cons_succ, List.getElem_cons_zero, Act.put, List.setIfInBounds_toArray, List.set_cons_zero, List.set_cons_succ, Nat.reduceAdd, Nat.reduceSub])
              refine wpG_done (by kernel_rfl) ?_
              simp only [List.drop_succ_cons, List.drop_zero]
              go_wp2
              go_roundw
              case rel => exact ⟨m + 1 + 1, by omega, by go_num, all_succ H1 HS.out, hB25.drew⟩
              case measure => simp [intOf]; omega
          · have hne : ¬ va = (ia : Int) := s2
            have HS : Hid (stepB qs l us (m + 1) = true) := stepB_ok HX.out HU.out (.inr ⟨_, HV.out, by simp [useLt]; omega⟩)
            go_wp2
            have s6 : ¬ (ia : Int) < va := by omega
            have s4 : (va == (ia : Int)) = false := by simpa using hne
            have s5 : decide (va = (ia : Int)) = false := by simpa using hne
            refine wp_region_G 34 (fun w' => w' = w5.drew) (by kernel_rfl) (by kernel_rfl) (by intro d v c a w h; cases d <;> exact h) rfl ?_
            iterate 5 (
              first
                | refine wpG_next rfl (by kernel_rfl) (.inr ⟨by rfl, rfl⟩) ?_
                | (refine wpG_next (v := ?_) rfl (by kernel_rfl) (.inl ⟨by rfl, ?hy⟩) ?_
                   case hy => (rintro w' rfl; simp only [List.getElem_toArray, List.getElem_cons_succ, List.getElem_cons_zero]; go_simp; try with_reducible rfl))
              simp only [List.getElem_toArray, List.getElem_cons_succ, List.getElem_cons_zero, Act.put, List.setIfInBounds_toArray, List.set_cons_zero, List.set_cons_succ, Nat.reduceAdd, Nat.reduceSub])
            first
              | refine wpG_next rfl (by kernel_rfl) (.inr ⟨by rfl, rfl⟩) ?_
              | (refine wpG_next (v := .int .i64 m) rfl (by kernel_rfl) (.inl ⟨by rfl, ?hy⟩) ?_
                 case hy => (rintro w' rfl; have hw := hwr.out; simp only [List.getElem_toArray, List.getElem_cons_succ, List.getElem_cons_zero]; go_simp; try (first | (simp [hw]; done) | (simp [IntKind.wrap, IntKind.bits, IntKind.signed]; omega) | omega)))
            simp only [List.getElem_toArray, List.getElem_cons_succ, List.getElem_cons_zero, Act.put, List.setIfInBounds_toArray, List.set_cons_zero, List.set_cons_succ, Nat.reduceAdd, Nat.reduceSub]
            iterate 9 (
              first
                | refine wpG_next rfl (by kernel_rfl) (.inr ⟨by rfl, rfl⟩) ?_
                | (refine wpG_next (v := ?_) rfl (by kernel_rfl) (.inl ⟨by rfl, ?hy⟩) ?_
                   case hy => (rintro w' rfl; simp only [List.getElem_toArray, List.getElem_cons_succ, List.getElem_cons_zero]; go_simp; try with_reducible rfl))
              simp only [List.getElem_toArray, List.getElem_cons_succ, List.getElem_cons_zero, Act.put, List.setIfInBounds_toArray, List.set_cons_zero, List.set_cons_succ, Nat.reduceAdd, Nat.reduceSub])
            first
              | refine wpG_next rfl (by kernel_rfl) (.inr ⟨by rfl, rfl⟩) ?_
              | (refine wpG_next (v := .int .i64 m) rfl (by kernel_rfl) (.inl ⟨by rfl, ?hy⟩) ?_
                 case hy => (rintro w' rfl; have hw := hwr.out; simp only [List.getElem_toArray, List.getElem_cons_succ, List.getElem_cons_zero]; go_simp; try (first | (simp [hw]; done) | (simp [IntKind.wrap, IntKind.bits, IntKind.signed]; omega) | omega)))
            simp only [List.getElem_toArray, List.getElem_cons_succ, List.getElem_cons_zero, Act.put, List.setIfInBounds_toArray, List.set_cons_zero, List.set_cons_succ, Nat.reduceAdd, Nat.reduceSub]
            iterate 9 (
              first
                | refine wpG_next rfl (by kernel_rfl) (.inr ⟨by rfl, rfl⟩) ?_
                | (refine wpG_next (v := ?_) rfl (by kernel_rfl) (.inl ⟨by rfl, ?hy⟩) ?_
                   case hy => (rintro w' rfl; simp only [List.getElem_toArray, List.getElem_cons_succ, List.getElem_cons_zero]; go_simp; try with_reducible rfl))
              simp only [List.getElem_toArray, List.getElem_cons_succ, List.getElem_cons_zero, Act.put, List.setIfInBounds_toArray, List.set_cons_zero, List.set_cons_succ, Nat.reduceAdd, Nat.reduceSub])
            first
              | refine wpG_next rfl (by kernel_rfl) (.inr ⟨by rfl, rfl⟩) ?_
              | (refine wpG_next (v := .int .i64 m) rfl (by kernel_rfl) (.inl ⟨by rfl, ?hy⟩) ?_
                 case hy => (rintro w' rfl; have hw := hwr.out; simp only [List.getElem_toArray, List.getElem_cons_succ, List.getElem_cons_zero]; go_simp; try (first | (simp [hw]; done) | (simp [IntKind.wrap, IntKind.bits, IntKind.signed]; omega) | omega)))
            simp only [List.getElem_toArray, List.getElem_cons_succ, List.getElem_cons_zero, Act.put, List.setIfInBounds_toArray, List.set_cons_zero, List.set_cons_succ, Nat.reduceAdd, Nat.reduceSub]
            iterate 8 (
              first
                | refine wpG_next rfl (by kernel_rfl) (.inr ⟨by rfl, rfl⟩) ?_
                | (refine wpG_next (v := ?_) rfl (by kernel_rfl) (.inl ⟨by rfl, ?hy⟩) ?_
                   case hy => (rintro w' rfl; simp only [List.getElem_toArray, List.getElem_cons_succ, List.getElem_cons_zero]; go_simp; try with_reducible rfl))
              simp only [List.getElem_toArray, List.getElem_cons_succ, List.getElem_cons_zero, Act.put, List.setIfInBounds_toArray, List.set_cons_zero, List.set_cons_succ, Nat.reduceAdd, Nat.reduceSub])
            refine wpG_done (by kernel_rfl) ?_
            simp only [List.drop_succ_cons, List.drop_zero]
            go_wp2
            go_roundw
            case rel => exact ⟨m + 1 + 1, by omega, by go_num, all_succ H1 HS.out, hB25.drew⟩
            case measure => simp [intOf]; omega
    · obtain rfl : k = us.length := by omega
      obtain ⟨w1, rfl⟩ : ∃ w1 : World, w1 = wr := ⟨_, rfl⟩
      have hBr3 : Below w.heap.size w w1 := bthen hB hBr
      have hzr : w.heap.size < w1.heap.size := by have := hBr.size; omega
      have huc : ∀ u, u ∈ us → 1 ≤ u.c ∧ u.c ≤ 60 := fun u hm => by
        obtain ⟨j, hj⟩ := List.getElem?_of_mem hm
        exact useB_c (stepB_use hj (H1.out j (List.getElem?_eq_some_iff.1 hj).1)) hlc
      clear hB hBr hz
      go_wp2
      go_loopw [9] (fun i wo => ∃ k : Nat, k ≤ l.length ∧ i = .int .i64 k ∧ Hid (∀ j, j < k → capA puses l us j = true) ∧ Below w1.heap.size w1 wo) (fun i _ => l.length - (intOf i).toNat)
      case atStart => exact ⟨0, Nat.zero_le _, rfl, fun j hj => by omega, Below.refl _ _⟩
      case round =>
        obtain ⟨k, hk, rfl, H2, hBo⟩ := hrel
        obtain ⟨wo, rfl⟩ : ∃ wo : World, wo = wr := ⟨_, rfl⟩
        have hb0o : ∀ j : Nat, wo.cell? ⟨w.heap.size, j, none⟩ = _ := fun j => (hBo.cell (p := ⟨w.heap.size, j, none⟩) (by simp; omega)).trans (hb0r j)
        have hBw : Below w.heap.size w wo := bthen hBr3 hBo
        by_cases hkl : k < l.length
        · obtain ⟨y, b2, off2, hy, rfl, hb2, g0, g1, g2, g3, g4⟩ := kAtt_get (hl.below hBw) hkl
          obtain ⟨hyc0, hyc1⟩ := hlc y (List.mem_of_getElem? hy.out)
          have HY : Hid (l[k]? = some y) := hy
          clear hy
          go_wp2
          go_loopw [10, 11] (fun n i wi => ∃ j : Nat, j ≤ us.length ∧ i = .int .i64 j ∧ n = .int .i64 (sumA (us.take j) k) ∧ Below wo.heap.size wo wi) (fun _ i _ => us.length - (intOf i).toNat)
          case atStart => exact ⟨0, Nat.zero_le _, rfl, rfl, Below.refl _ _⟩
          case round =>
            obtain ⟨j, hj, rfl, rfl, hBi⟩ := hrel
            obtain ⟨wi, rfl⟩ : ∃ wi : World, wi = wr := ⟨_, rfl⟩
            have hBwi : Below w.heap.size w wi := bthen hBw hBi
            obtain ⟨T, hT⟩ : ∃ T, T = sumA (us.take j) k := ⟨_, rfl⟩
            have hTb := sum_bd (us := us.take j) (fun u hu => huc u (List.mem_of_mem_take hu)) (fun u => decide (u.a = (k : Int)))
            have hTb2 : 0 ≤ T ∧ T ≤ 60 * (us.take j).length := by rw [hT]; exact hTb
            have htl : (us.take j).length ≤ j := List.length_take_le _ _
            clear hTb
            obtain ⟨hTb0, hTb1⟩ := hTb2
            by_cases hjl : j < us.length
            · obtain ⟨x, b, off, hx, rfl, hb, f0, f1, f2⟩ := kUse_get (hu.below hBwi) hjl
              have hxc := huc x (List.mem_of_getElem? hx.out)
              have hts : Hid (sumA (us.take (j + 1)) k = T + (if x.a = (k : Int) then x.c else 0)) := by show _ = _; rw [take_snoc_get hx.out, sumA_snoc, hT]
              rw [← hT]
              have HT1 : Hid _ := hT
              clear hT hx
              by_cases hxa : x.a = (k : Int)
              · have hts2 : Hid (sumA (us.take (j + 1)) k = T + x.c) := by show _ = _; rw [hts.out, if_pos hxa]
                clear hts
                go_wp2
                go_roundw
                case rel => exact ⟨j + 1, hjl, by go_num, by rw [hts2.out], hBi⟩
                case measure => simp [intOf]; omega
              · have hts2 : Hid (sumA (us.take (j + 1)) k = T) := by show _ = _; rw [hts.out, if_neg hxa]; simp
                clear hts
                go_wp2
                go_roundw
                case rel => exact ⟨j + 1, hjl, by go_num, by rw [hts2.out], hBi⟩
                case measure => simp [intOf]; omega
            · obtain rfl : j = us.length := by omega
              rw [List.take_length] at hT
              rw [List.take_length, ← hT]
              have hb0i : ∀ j : Nat, wi.cell? ⟨w.heap.size, j, none⟩ = _ := fun j => (hBi.cell (p := ⟨w.heap.size, j, none⟩) (by have := hBo.size; simp; omega)).trans (hb0o j)
              have g4i := (hBi.cell (p := ⟨b2, off2 + k * 5 + 4, none⟩) hb2).trans g4
              have hb2i := Nat.lt_of_lt_of_le hb2 hBi.size
              have hmul : wrap64 (y.cr * puses) = y.cr * puses := by
                have h1 : y.cr * puses ≤ 60 * 5 := Int.mul_le_mul hyc1 hus.2 hus.1 (by decide)
                have h2 : 0 ≤ y.cr * puses := Int.mul_nonneg hyc0 hus.1
                unfold wrap64; omega
              have HT : Hid (T = sumA us k) := hT
              clear hT g0 g1 g2 g3 g4 hb0o
              by_cases hcap : T ≤ y.cr * puses
              · have hc1 : ¬ y.cr * puses < T := by omega
                have HC : Hid (capA puses l us k = true) := by
                  show _ = _
                  refine decide_eq_true ?_
                  rw [HY.out, ← HT.out]; exact hcap
                clear hcap
                go_wp2
                go_region
                go_wp2
                go_roundw
                case rel => exact ⟨k + 1, hkl, by go_num, fun j hj => (if e : j = k then e ▸ HC.out else H2.out j (by omega)), (bthen hBo hBi).drew⟩
                case measure => simp [intOf]; omega
              · have hc1 : y.cr * puses < T := by omega
                have HC : Hid (G = false) := HG.out.symm.trans (asgB_no2 hkl (by
                  refine decide_eq_false ?_
                  rw [HY.out, ← HT.out]; exact hcap))
                clear hcap
                go_wp2
                go_region
                go_wp2
                go_ret
                exact ⟨ret_congr (by rw [HC.out]; rfl), (bthen hBw hBi).drew⟩
        · obtain rfl : k = l.length := by omega
          clear hb0r
          go_wp2
          go_loopw [12] (fun i wp => ∃ k : Nat, k ≤ qs.length ∧ i = .int .i64 k ∧ Hid (∀ j, j < k → capQ qs us j = true) ∧ Below wo.heap.size wo wp) (fun i _ => qs.length - (intOf i).toNat)
          case atStart => exact ⟨0, Nat.zero_le _, rfl, fun j hj => by omega, Below.refl _ _⟩
          case round =>
            obtain ⟨k, hk, rfl, H3, hBp⟩ := hrel
            obtain ⟨wp, rfl⟩ : ∃ wp : World, wp = wr := ⟨_, rfl⟩
            have hzo : w.heap.size < wo.heap.size := by have := hBo.size; omega
            have hb0p : ∀ j : Nat, wp.cell? ⟨w.heap.size, j, none⟩ = _ := fun j => (hBp.cell (p := ⟨w.heap.size, j, none⟩) (by simp; omega)).trans (hb0o j)
            have hBwp : Below w.heap.size w wp := bthen hBw hBp
            by_cases hkl : k < qs.length
            · obtain ⟨y, b2, off2, B3, c3, hy, rfl, hb2, hc3, hr3, g0, g1, g2, g3, g4, g5⟩ := kReq_get (hq.below hBwp) hkl
              obtain ⟨hyc0, hyc1⟩ := hqc y (List.mem_of_getElem? hy.out)
              have HY : Hid (qs[k]? = some y) := hy
              clear hy
              go_wp2
              go_loopw [13, 14] (fun n i wi => ∃ j : Nat, j ≤ us.length ∧ i = .int .i64 j ∧ n = .int .i64 (sumR (us.take j) k) ∧ Below wp.heap.size wp wi) (fun _ i _ => us.length - (intOf i).toNat)
              case atStart => exact ⟨0, Nat.zero_le _, rfl, rfl, Below.refl _ _⟩
              case round =>
                obtain ⟨j, hj, rfl, rfl, hBi⟩ := hrel
                obtain ⟨wi, rfl⟩ : ∃ wi : World, wi = wr := ⟨_, rfl⟩
                have hBwi : Below w.heap.size w wi := bthen hBwp hBi
                obtain ⟨T, hT⟩ : ∃ T, T = sumR (us.take j) k := ⟨_, rfl⟩
                have hTb := sum_bd (us := us.take j) (fun u hu => huc u (List.mem_of_mem_take hu)) (fun u => decide (u.r = (k : Int)))
                have hTb2 : 0 ≤ T ∧ T ≤ 60 * (us.take j).length := by rw [hT]; exact hTb
                have htl : (us.take j).length ≤ j := List.length_take_le _ _
                clear hTb
                obtain ⟨hTb0, hTb1⟩ := hTb2
                by_cases hjl : j < us.length
                · obtain ⟨x, b, off, hx, rfl, hb, f0, f1, f2⟩ := kUse_get (hu.below hBwi) hjl
                  have hxc := huc x (List.mem_of_getElem? hx.out)
                  have hts : Hid (sumR (us.take (j + 1)) k = T + (if x.r = (k : Int) then x.c else 0)) := by show _ = _; rw [take_snoc_get hx.out, sumR_snoc, hT]
                  rw [← hT]
                  have HT1 : Hid _ := hT
                  clear hT hx
                  by_cases hxa : x.r = (k : Int)
                  · have hts2 : Hid (sumR (us.take (j + 1)) k = T + x.c) := by show _ = _; rw [hts.out, if_pos hxa]
                    clear hts
                    go_wp2
                    go_roundw
                    case rel => exact ⟨j + 1, hjl, by go_num, by rw [hts2.out], hBi⟩
                    case measure => simp [intOf]; omega
                  · have hts2 : Hid (sumR (us.take (j + 1)) k = T) := by show _ = _; rw [hts.out, if_neg hxa]; simp
                    clear hts
                    go_wp2
                    go_roundw
                    case rel => exact ⟨j + 1, hjl, by go_num, by rw [hts2.out], hBi⟩
                    case measure => simp [intOf]; omega
                · obtain rfl : j = us.length := by omega
                  rw [List.take_length] at hT
                  rw [List.take_length, ← hT]
                  have hb0i : ∀ j : Nat, wi.cell? ⟨w.heap.size, j, none⟩ = _ := fun j => (hBi.cell (p := ⟨w.heap.size, j, none⟩) (by have := hBp.size; simp; omega)).trans (hb0p j)
                  have g1i := (hBi.cell (p := ⟨b2, _, none⟩) hb2).trans g1
                  have hb2i := Nat.lt_of_lt_of_le hb2 hBi.size
                  have HT : Hid (T = sumR us k) := hT
                  clear hT g0 g1 g2 g3 g4 g5 hb0p
                  by_cases hcap : T ≤ y.cr
                  · have hc1 : ¬ y.cr < T := by omega
                    have HC : Hid (capQ qs us k = true) := by
                      show _ = _
                      refine decide_eq_true ?_
                      rw [HY.out, ← HT.out]; exact hcap
                    clear hcap
                    go_wp2
                    go_roundw
                    case rel => exact ⟨k + 1, hkl, by go_num, fun j hj => (if e : j = k then e ▸ HC.out else H3.out j (by omega)), bthen hBp hBi⟩
                    case measure => simp [intOf]; omega
                  · have hc1 : y.cr < T := by omega
                    have HC : Hid (G = false) := HG.out.symm.trans (asgB_no3 hkl (by
                      refine decide_eq_false ?_
                      rw [HY.out, ← HT.out]; exact hcap))
                    clear hcap
                    go_wp2
                    go_ret
                    exact ⟨ret_congr (by rw [HC.out]; rfl), bthen hBwp hBi⟩
            · obtain rfl : k = qs.length := by omega
              have HC : Hid (G = true) := HG.out.symm.trans (asgB_of H1.out H2.out H3.out)
              go_wp2
              go_ret
              exact ⟨ret_congr (by rw [HC.out]; rfl), hBwp⟩
end Go.Proofs.YtaiibchadlaifaaGreatDoor

namespace Go.Proofs.YtaiibchadlaifaaGreatDoor
open Go.RowKit Go.Shelf
attribute [local go_sem] Oper.semAt_some

set_option maxRecDepth 100000 in
set_option maxHeartbeats 16000000 in
theorem law_Optimal_c (w : World) (p : Prg) (l : List Att) (us : List Use) (A Aq AU : Option Addr) (c cq cu : Nat) (hl : Rd kAtt w A l) (hq : Rd kReq w Aq p.reqs) (hu : Rd kUse w AU us) :
    Calls Tryz.prog 9 #[.agg #[.string p.nm, .int .i64 p.num, .int .i64 p.uses, .int .i64 p.earn, .int .i64 p.mn, .int .i64 p.md, .slice Aq p.reqs.length cq], .slice A l.length c, .slice AU us.length cu] w fun e w' => e = .returned (.bool true) ∧ Below w.heap.size w w' := by
  have hsn := fun W => sane_c W
  have hfw := fun W (h : Below w.heap.size w W) => ref19_Few_c W p Aq A cq l.length c (hq.below h) hl.len
  have hlu := hu.len
  cases hF : fewB p.reqs l.length with
  | false =>
    rw [hF] at hfw
    clear hF hl hq hu
    obtain ⟨pnm, pnum, puses, pearn, pmn, pmd, qs⟩ := p
    dsimp only at *
    go_enter Tryz.func9, Tryz.ntmps9
    have hP := World.alloc_heap_new w (.cells #[.string pnm, .int .i64 pnum, .int .i64 puses, .int .i64 pearn, .int .i64 pmn, .int .i64 pmd, .slice Aq qs.length cq] 26)
    have hz := World.size_alloc w (.cells #[.string pnm, .int .i64 pnum, .int .i64 puses, .int .i64 pearn, .int .i64 pmn, .int .i64 pmd, .slice Aq qs.length cq] 26)
    go_wp2_with (first
      | (go_at_call 11; refine (hsn _).mono ?_; rintro e w1 ⟨rfl, hb1⟩; have hB1 := bthen (below1 w _) hb1; have cP := blk_cell ((hb1.block _ (by omega)).trans hP))
      | (go_at_call 12; refine (hfw _ hB1).mono ?_; rintro e w2 ⟨rfl, hb2⟩))
    go_ret
    exact ⟨rfl, bthen hB1 hb2⟩
  | true =>
    have hm : l.length ≤ 8 := by unfold fewB at hF; simp at hF; omega
    rw [hF] at hfw
    by_cases h20 : 20 < us.length
    · have h20' : (20 : Int) < us.length := by omega
      clear hF hl hq hu
      obtain ⟨pnm, pnum, puses, pearn, pmn, pmd, qs⟩ := p
      dsimp only at *
      go_enter Tryz.func9, Tryz.ntmps9
      have hP := World.alloc_heap_new w (.cells #[.string pnm, .int .i64 pnum, .int .i64 puses, .int .i64 pearn, .int .i64 pmn, .int .i64 pmd, .slice Aq qs.length cq] 26)
      have hz := World.size_alloc w (.cells #[.string pnm, .int .i64 pnum, .int .i64 puses, .int .i64 pearn, .int .i64 pmn, .int .i64 pmd, .slice Aq qs.length cq] 26)
      go_wp2_with (first
        | (go_at_call 11; refine (hsn _).mono ?_; rintro e w1 ⟨rfl, hb1⟩; have hB1 := bthen (below1 w _) hb1; have cP := blk_cell ((hb1.block _ (by omega)).trans hP))
        | (go_at_call 12; refine (hfw _ hB1).mono ?_; rintro e w2 ⟨rfl, hb2⟩))
      go_ret
      exact ⟨rfl, bthen hB1 hb2⟩
    have h20' : ¬ (20 : Int) < us.length := by omega
    by_cases hE : netE p l = 0
    · have hau := fun W (h : Below w.heap.size w W) => degree_Audit_cut W p l A Aq c cq (hl.below h) (hq.below h) (by omega) hE
      obtain ⟨N, hN⟩ : ∃ N : Nat, N = 2 + l.length + p.reqs.length := ⟨_, rfl⟩
      have hN2 : (2 + (l.length : Int) + p.reqs.length) = (N : Int) := by omega
      have hN3 : ((0 : Nat) : Int) = 0 := rfl
      have hN4 : ((N - 1 : Nat) : Int) = (N : Int) - 1 := by omega
      have hnet := fun W (h : Below w.heap.size w W) => degree_Network_good W p l A Aq c cq (hl.below h) (hq.below h) (by omega) hE
      have hends := net_ends hE (show l.length ≤ 60 by omega)
      rw [show 1 + l.length + p.reqs.length = N - 1 by omega, ← hN] at hends
      have hcap := fun W bs X cX AB (h1 : Rd kEdge W X (netL p l)) (h2 : Rd kB W AB bs) h3 h4 h5 => flow_Capacity_c N 0 (N - 1) (netL p l) bs X AB cX N W h1 h2 hends h3 h4 h5
      rw [hN3, hN4] at hcap
      rw [← hN] at hau
      rw [hN2] at hnet
      obtain ⟨hp0, hall⟩ := netE_ok hE
      obtain ⟨hu1, hu2, hr64, hqcr⟩ := prg_ok hp0
      have hlc : ∀ a, a ∈ l → 0 ≤ a.cr ∧ a.cr ≤ 60 := fun a ha => attOk_cr (List.all_eq_true.1 hall a ha)
      have hqc : ∀ q, q ∈ p.reqs → 0 ≤ q.cr ∧ q.cr ≤ 10000 := fun q h => by have := hqcr q h; omega
      have hto := fun W (h : Below w.heap.size w W) => ref19_Total_c W p Aq cq (hq.below h) hqc (by omega)
      have htb := totalC_bd p.reqs hqc
      have hasg := fun W (h : Below w.heap.size w W) => ref19_Assignment_c W p l us Aq A AU cq c cu (hq.below h) (hl.below h) (hu.below h) (by omega) (by omega) (by omega) hqc hlc (by omega)
      have hN5 : 2 ≤ N := by omega
      have hN6 : N ≤ 1000 := by omega
      have HU : Hid (Rd kUse w AU us ∧ (∀ a, a ∈ l → 0 ≤ a.cr ∧ a.cr ≤ 60)) := ⟨hu, hlc⟩
      have HB : Hid (totalC p.reqs ≤ 10000 * p.reqs.length ∧ 0 ≤ totalC p.reqs) := ⟨htb.2, htb.1⟩
      have hbest : ∀ x, MissP p l x → asgB p.uses p.reqs l us = true → usedC us ≤ totalC p.reqs - x := fun x hx ha => miss_best hx (fun a ha => (hlc a ha).1) ha
      have hmb : ∀ x, MissP p l x → 0 ≤ x ∧ x ≤ totalC p.reqs := fun x hx => miss_bd hx hlc
      generalize hEL : netL p l = EL at *
      clear hF hE hp0 hall hlc hqc hl hq hu hqcr htb hN hN2 hN3 hN4 hends
      obtain ⟨pnm, pnum, puses, pearn, pmn, pmd, qs⟩ := p
      dsimp only at *
      go_enter Tryz.func9, Tryz.ntmps9
      have hP := World.alloc_heap_new w (.cells #[.string pnm, .int .i64 pnum, .int .i64 puses, .int .i64 pearn, .int .i64 pmn, .int .i64 pmd, .slice Aq qs.length cq] 26)
      have hz := World.size_alloc w (.cells #[.string pnm, .int .i64 pnum, .int .i64 puses, .int .i64 pearn, .int .i64 pmn, .int .i64 pmd, .slice Aq qs.length cq] 26)
      go_wp2_with (first
        | (go_at_call 11; refine (hsn _).mono ?_; rintro e w1 ⟨rfl, hb1⟩; have hB1 := bthen (below1 w _) hb1; have hP1 := (hb1.block _ (by omega)).trans hP; have cP := blk_cell hP1; have hz1 := (Array.getElem?_eq_some_iff.1 hP1).1)
        | (go_at_call 12; refine (hfw _ hB1).mono ?_; rintro e w2 ⟨rfl, hb2⟩; have hB2 := bthen hB1 hb2; have hP2 := (hb2.block _ hz1).trans hP1; have cP2 := blk_cell hP2; have hz2 := (Array.getElem?_eq_some_iff.1 hP2).1)
        | (go_at_call 21; refine (hau _ hB2).mono ?_; refine stopHere ?_))
      unfold Stopped
      rintro e w3 ⟨AX, nX, cX, cb, bs, x, rfl, hbs, hbl, hb0, hbt, hcapx, hmx, hb3⟩
      rw [hEL] at hcapx
      have hxT := hmb x hmx
      have hbx := hbest x hmx
      have hA4 := World.alloc_heap_new w3 (.cells #[.slice AX nX cX, .int .i64 x, .slice (some ⟨cb, 0, none⟩) N N] 45)
      have hb4 := below1 w3 (.cells #[.slice AX nX cX, .int .i64 x, .slice (some ⟨cb, 0, none⟩) N N] 45)
      have hz34 := World.size_alloc w3 (.cells #[.slice AX nX cX, .int .i64 x, .slice (some ⟨cb, 0, none⟩) N N] 45)
      have hz3 : w.heap.size < w3.heap.size := Nat.lt_of_lt_of_le hz2 hb3.size
      have hB4 := bthen hB2 (bthen hb3 hb4)
      have hP4 := ((bthen hb3 hb4).block _ hz2).trans hP2
      have cP4 := blk_cell hP4
      have HBS : Hid (Rd kB (w3.alloc (.cells #[.slice AX nX cX, .int .i64 x, .slice (some ⟨cb, 0, none⟩) N N] 45)) (some ⟨cb, 0, none⟩) bs) := hbs.below hb4
      have HCB : Hid (bs.length = N ∧ bs[0]? = some true ∧ bs[N - 1]? = some false ∧ capC (cutB bs) EL = totalC qs - x) := ⟨hbl, hb0, hbt, hcapx⟩
      have HEL : Hid (netL ⟨pnm, pnum, puses, pearn, pmn, pmd, qs⟩ l = EL) := hEL
      clear hP hP1 hP2 hz1 hz2 hb1 hb2 hb3 hB1 hB2 hsn hfw hau hbs hbl hb0 hbt hcapx hmx hbest hmb cP cP2 hEL
      go_wp2_with (go_at_call 18; refine (hnet _ hB4).mono ?_; refine stopHere ?_)
      unfold Stopped
      rintro e w5 ⟨v5, rfl, hown5, hb5⟩
      obtain ⟨X, cX2, rfl, _, hrx⟩ := hown5.rd edge_len
      have hA5 := (hb5.block _ (by omega)).trans hA4
      have hP5 := (hb5.block _ (by omega)).trans hP4
      have hB5 := bthen hB4 hb5
      have HRX : Hid (Rd kEdge w5 X EL) := hrx
      have HBS5 : Hid (Rd kB w5 (some ⟨cb, 0, none⟩) bs) := HBS.out.below hb5
      obtain ⟨T, hT⟩ : ∃ T, T = totalC qs := ⟨_, rfl⟩
      have hcap5 : ∀ W, Below w5.heap.size w5 W → Calls Tryz.prog 31 #[.int .i64 N, .slice X EL.length cX2, .int .i64 0, .int .i64 ((N : Int) - 1), .slice (some ⟨cb, 0, none⟩) N N] W fun e w' => e = .returned (.tuple #[.int .i64 (T - x), .int .i64 0]) ∧ Below W.heap.size W w' := fun W hW => by
        obtain ⟨q1, q2, q3, q4⟩ := HCB.out
        rw [hT, ← q4]
        exact hcap W bs X cX2 _ (HRX.out.below hW) (HBS5.out.below hW) q1 q2 q3
      have hto5 : ∀ W, Below w5.heap.size w5 W → Calls Tryz.prog 29 #[.agg #[.string pnm, .int .i64 pnum, .int .i64 puses, .int .i64 pearn, .int .i64 pmn, .int .i64 pmd, .slice Aq qs.length cq]] W fun e w' => e = .returned (.int .i64 T) ∧ Below W.heap.size W w' := fun W hW => by rw [hT]; exact hto W (bthen hB5 hW)
      have hasg5 := fun W (h : Below w5.heap.size w5 W) => hasg W (bthen hB5 h)
      have hTb : 0 ≤ T ∧ T ≤ 640000 := by have := HB.out; omega
      rw [← hT] at hxT hbx
      have hu5 : Rd kUse w5 AU us := HU.out.1.below hB5
      have HU5 : Hid (Rd kUse w5 AU us) := hu5
      clear hcap hto hasg hnet hown5 hrx hA4 hP4 hB4 HBS hu5 hT HB hb5 cP4
      generalize w3.heap.size = Y at *
      have hY5 := (Array.getElem?_eq_some_iff.1 hA5).1
      have hW5 := (Array.getElem?_eq_some_iff.1 hP5).1
      have a5 : w5.cell? ⟨Y, 2, none⟩ = some (.slice (some ⟨cb, 0, none⟩) N N) := by rw [blk_cell hA5]; rfl
      go_wp2_with (go_at_call 31; refine (hcap5 _ (Below.refl _ _)).mono ?_; rintro e w6 ⟨rfl, hb6⟩)
      have hA6 := (hb6.block _ hY5).trans hA5
      have hP6 := (hb6.block _ hW5).trans hP5
      have hY6 := Nat.lt_of_lt_of_le hY5 hb6.size
      have hW6 := Nat.lt_of_lt_of_le hW5 hb6.size
      have hF : ∀ w', Below w6.heap.size w6 w' → (∀ j : Nat, w'.cell? ⟨w.heap.size, j, none⟩ = #[Value.string pnm, .int .i64 pnum, .int .i64 puses, .int .i64 pearn, .int .i64 pmn, .int .i64 pmd, .slice Aq qs.length cq][j]?) ∧ (∀ j : Nat, w'.cell? ⟨Y, j, none⟩ = #[Value.slice AX nX cX, .int .i64 x, .slice (some ⟨cb, 0, none⟩) N N][j]?) := fun w' h => ⟨blk_cell ((h.block _ hW6).trans hP6), blk_cell ((h.block _ hY6).trans hA6)⟩
      have hto6 := fun W (h : Below w6.heap.size w6 W) => hto5 W (bthen hb6 h)
      have hasg6 := fun W (h : Below w6.heap.size w6 W) => hasg5 W (bthen hb6 h)
      have HU6 : Hid (Rd kUse w6 AU us) := HU5.out.below hb6
      have hB6 : Below w.heap.size w w6 := bthen hB5 hb6
      obtain ⟨hx0, hxT1⟩ := hxT
      obtain ⟨hT0, hT1⟩ := hTb
      have hS0 : Below w6.heap.size w6 w6.drew := (Below.refl _ _).drew
      clear hcap5 hto5 hasg5 hA5 hP5 hY5 hW5 HBS5 HU5 HRX HCB a5
      refine wp_region_G 14 (fun w' => Below w6.heap.size w6 w') (by kernel_rfl) (by kernel_rfl) (by intro d v c a w h; cases d <;> exact h) hS0 ?_
      iterate 9 (
        first
          | refine wpG_next rfl (by kernel_rfl) (.inr ⟨by rfl, rfl⟩) ?_
          | (refine wpG_next (v := ?_) rfl (by kernel_rfl) (.inl ⟨by rfl, ?hy⟩) ?_
             case hy => (intro w' hS'; obtain ⟨f1, f2⟩ := hF w' hS'; simp only [List.getElem_toArray, List.getElem_cons_succ, List.getElem_cons_zero]; go_simp; try with_reducible rfl))
        simp only [List.getElem_toArray, List.getElem_cons_succ, List.getElem_cons_zero, Act.put, List.setIfInBounds_toArray, List.set_cons_zero, List.set_cons_succ, Nat.reduceAdd, Nat.reduceSub])
      refine wpG_yield (v := ?_) (i := 10) rfl (by kernel_rfl) (by rfl) ?hy ?_
      case hy => (intro w' hS'; obtain ⟨f1, f2⟩ := hF w' hS'; simp only [List.getElem_toArray, List.getElem_cons_succ, List.getElem_cons_zero]; go_simp; try with_reducible rfl)
      simp only [List.getElem_toArray, List.getElem_cons_succ, List.getElem_cons_zero, Act.put, List.setIfInBounds_toArray, List.set_cons_zero, List.set_cons_succ, Nat.reduceAdd, Nat.reduceSub]
      refine wpG_yield (v := ?_) (i := 11) rfl (by kernel_rfl) (by rfl) ?hy ?_
      case hy => (intro w' hS'; obtain ⟨f1, f2⟩ := hF w' hS'; simp only [List.getElem_toArray, List.getElem_cons_succ, List.getElem_cons_zero]; go_simp; try with_reducible rfl)
      simp only [List.getElem_toArray, List.getElem_cons_succ, List.getElem_cons_zero, Act.put, List.setIfInBounds_toArray, List.set_cons_zero, List.set_cons_succ, Nat.reduceAdd, Nat.reduceSub]
      refine wpG_call (i := 9) rfl (by kernel_rfl) (by rfl) ?hr ((hto6 _ hS0).mono ?_)
      case hr => (simp only [List.getElem_toArray, List.getElem_cons_succ, List.getElem_cons_zero]; go_simp; try rfl)
      rintro e wa ⟨rfl, hba⟩
      have hSa := bthen hS0 hba
      refine ⟨_, rfl, hSa, ?_⟩
      simp only [List.getElem_toArray, List.getElem_cons_succ, List.getElem_cons_zero, Act.put, List.setIfInBounds_toArray, List.set_cons_zero, List.set_cons_succ, Nat.reduceAdd, Nat.reduceSub]
      refine wpG_yield (v := .int .i64 (T - x)) (i := 12) rfl (by kernel_rfl) (by rfl) ?hy ?_
      case hy => (intro w' hS'; obtain ⟨f1, f2⟩ := hF w' hS'; simp only [List.getElem_toArray, List.getElem_cons_succ, List.getElem_cons_zero]; go_simp; try (simp [IntKind.wrap, IntKind.bits, IntKind.signed]; omega))
      simp only [List.getElem_toArray, List.getElem_cons_succ, List.getElem_cons_zero, Act.put, List.setIfInBounds_toArray, List.set_cons_zero, List.set_cons_succ, Nat.reduceAdd, Nat.reduceSub]
      iterate 1 (
        first
          | refine wpG_next rfl (by kernel_rfl) (.inr ⟨by rfl, rfl⟩) ?_
          | (refine wpG_next (v := ?_) rfl (by kernel_rfl) (.inl ⟨by rfl, ?hy⟩) ?_
             case hy => (intro w' hS'; obtain ⟨f1, f2⟩ := hF w' hS'; simp only [List.getElem_toArray, List.getElem_cons_succ, List.getElem_cons_zero]; go_simp; try with_reducible rfl))
        simp only [List.getElem_toArray, List.getElem_cons_succ, List.getElem_cons_zero, Act.put, List.setIfInBounds_toArray, List.set_cons_zero, List.set_cons_succ, Nat.reduceAdd, Nat.reduceSub])
      refine wpG_done (by kernel_rfl) ?_
      simp only [List.drop_succ_cons, List.drop_zero]
      have hBa : Below w.heap.size w wa := bthen hB6 hSa
      have hF0 := hF
      have hF : ∀ w', Below wa.heap.size wa w' → _ := fun w' h => hF0 w' (bthen hSa h)
      have htoa := fun W (h : Below wa.heap.size wa W) => hto6 W (bthen hSa h)
      have hasga := fun W (h : Below wa.heap.size wa W) => hasg6 W (bthen hSa h)
      have HUa : Hid (Rd kUse wa AU us) := HU6.out.below hSa
      obtain ⟨p1, p2⟩ := hF0 wa hSa
      clear hF0 hto6 hasg6 HU6 hS0 hA6 hP6 hY6 hW6 hba hb6
      cases hG : asgB puses qs l us with
      | false =>
        rw [hG] at hasga
        clear hG hbx
        go_wp2
        have hS0 : Below wa.heap.size wa wa.drew := (Below.refl _ _).drew
        refine wp_region_G 14 (fun w' => Below wa.heap.size wa w') (by kernel_rfl) (by kernel_rfl) (by intro d v c a w h; cases d <;> exact h) hS0 ?_
        iterate 3 (
          first
            | refine wpG_next rfl (by kernel_rfl) (.inr ⟨by rfl, rfl⟩) ?_
            | (refine wpG_next (v := ?_) rfl (by kernel_rfl) (.inl ⟨by rfl, ?hy⟩) ?_
               case hy => (intro w' hS'; obtain ⟨f1, f2⟩ := hF w' hS'; simp only [List.getElem_toArray, List.getElem_cons_succ, List.getElem_cons_zero]; go_simp; try with_reducible rfl))
          simp only [List.getElem_toArray, List.getElem_cons_succ, List.getElem_cons_zero, Act.put, List.setIfInBounds_toArray, List.set_cons_zero, List.set_cons_succ, Nat.reduceAdd, Nat.reduceSub])
        refine wpG_call (i := 3) rfl (by kernel_rfl) (by rfl) ?hr ((hasga _ hS0).mono ?_)
        case hr => (simp only [List.getElem_toArray, List.getElem_cons_succ, List.getElem_cons_zero]; go_simp; try rfl)
        rintro e wb ⟨rfl, hba⟩
        have hSb := bthen hS0 hba
        refine ⟨_, rfl, hSb, ?_⟩
        simp only [List.getElem_toArray, List.getElem_cons_succ, List.getElem_cons_zero, Act.put, List.setIfInBounds_toArray, List.set_cons_zero, List.set_cons_succ, Nat.reduceAdd, Nat.reduceSub]
        iterate 10 (
          first
            | refine wpG_next rfl (by kernel_rfl) (.inr ⟨by rfl, rfl⟩) ?_
            | (refine wpG_next (v := ?_) rfl (by kernel_rfl) (.inl ⟨by rfl, ?hy⟩) ?_
               case hy => (intro w' hS'; obtain ⟨f1, f2⟩ := hF w' hS'; simp only [List.getElem_toArray, List.getElem_cons_succ, List.getElem_cons_zero]; go_simp; try with_reducible rfl))
          simp only [List.getElem_toArray, List.getElem_cons_succ, List.getElem_cons_zero, Act.put, List.setIfInBounds_toArray, List.set_cons_zero, List.set_cons_succ, Nat.reduceAdd, Nat.reduceSub])
        refine wpG_done (by kernel_rfl) ?_
        simp only [List.drop_succ_cons, List.drop_zero]
        go_wp2
        go_ret
        exact ⟨rfl, bthen hBa hSb⟩
      | true =>
        rw [hG] at hasga
        have hux := hbx hG
        have huc := asgB_c hG HU.out.2
        have hub := usedC_bd us (fun u hm => by have := huc u hm; omega)
        have hadd := fun W (h : Below wa.heap.size wa W) => ref19_Assigned_c W us AU cu (HUa.out.below h) (fun u hm => by have := huc u hm; omega) (by omega)
        generalize usedC us = U at *
        obtain ⟨hU0, hU1⟩ := hub
        clear hG hbx huc
        go_wp2
        have hS0 : Below wa.heap.size wa wa.drew := (Below.refl _ _).drew
        refine wp_region_G 14 (fun w' => Below wa.heap.size wa w') (by kernel_rfl) (by kernel_rfl) (by intro d v c a w h; cases d <;> exact h) hS0 ?_
        iterate 3 (
          first
            | refine wpG_next rfl (by kernel_rfl) (.inr ⟨by rfl, rfl⟩) ?_
            | (refine wpG_next (v := ?_) rfl (by kernel_rfl) (.inl ⟨by rfl, ?hy⟩) ?_
               case hy => (intro w' hS'; obtain ⟨f1, f2⟩ := hF w' hS'; simp only [List.getElem_toArray, List.getElem_cons_succ, List.getElem_cons_zero]; go_simp; try with_reducible rfl))
          simp only [List.getElem_toArray, List.getElem_cons_succ, List.getElem_cons_zero, Act.put, List.setIfInBounds_toArray, List.set_cons_zero, List.set_cons_succ, Nat.reduceAdd, Nat.reduceSub])
        refine wpG_call (i := 3) rfl (by kernel_rfl) (by rfl) ?hr ((hasga _ hS0).mono ?_)
        case hr => (simp only [List.getElem_toArray, List.getElem_cons_succ, List.getElem_cons_zero]; go_simp; try rfl)
        rintro e wb ⟨rfl, hba⟩
        have hSb := bthen hS0 hba
        refine ⟨_, rfl, hSb, ?_⟩
        simp only [List.getElem_toArray, List.getElem_cons_succ, List.getElem_cons_zero, Act.put, List.setIfInBounds_toArray, List.set_cons_zero, List.set_cons_succ, Nat.reduceAdd, Nat.reduceSub]
        iterate 3 (
          first
            | refine wpG_next rfl (by kernel_rfl) (.inr ⟨by rfl, rfl⟩) ?_
            | (refine wpG_next (v := ?_) rfl (by kernel_rfl) (.inl ⟨by rfl, ?hy⟩) ?_
               case hy => (intro w' hS'; obtain ⟨f1, f2⟩ := hF w' hS'; simp only [List.getElem_toArray, List.getElem_cons_succ, List.getElem_cons_zero]; go_simp; try with_reducible rfl))
          simp only [List.getElem_toArray, List.getElem_cons_succ, List.getElem_cons_zero, Act.put, List.setIfInBounds_toArray, List.set_cons_zero, List.set_cons_succ, Nat.reduceAdd, Nat.reduceSub])
        refine wpG_yield (v := ?_) (i := 8) rfl (by kernel_rfl) (by rfl) ?hy ?_
        case hy => (intro w' hS'; obtain ⟨f1, f2⟩ := hF w' hS'; simp only [List.getElem_toArray, List.getElem_cons_succ, List.getElem_cons_zero]; go_simp; try with_reducible rfl)
        simp only [List.getElem_toArray, List.getElem_cons_succ, List.getElem_cons_zero, Act.put, List.setIfInBounds_toArray, List.set_cons_zero, List.set_cons_succ, Nat.reduceAdd, Nat.reduceSub]
        refine wpG_yield (v := ?_) (i := 11) rfl (by kernel_rfl) (by rfl) ?hy ?_
        case hy => (intro w' hS'; obtain ⟨f1, f2⟩ := hF w' hS'; simp only [List.getElem_toArray, List.getElem_cons_succ, List.getElem_cons_zero]; go_simp; try with_reducible rfl)
        simp only [List.getElem_toArray, List.getElem_cons_succ, List.getElem_cons_zero, Act.put, List.setIfInBounds_toArray, List.set_cons_zero, List.set_cons_succ, Nat.reduceAdd, Nat.reduceSub]
        refine wpG_yield (v := ?_) (i := 12) rfl (by kernel_rfl) (by rfl) ?hy ?_
        case hy => (intro w' hS'; obtain ⟨f1, f2⟩ := hF w' hS'; simp only [List.getElem_toArray, List.getElem_cons_succ, List.getElem_cons_zero]; go_simp; try with_reducible rfl)
        simp only [List.getElem_toArray, List.getElem_cons_succ, List.getElem_cons_zero, Act.put, List.setIfInBounds_toArray, List.set_cons_zero, List.set_cons_succ, Nat.reduceAdd, Nat.reduceSub]
        refine wpG_call (i := 7) rfl (by kernel_rfl) (by rfl) ?hr ((htoa _ hSb).mono ?_)
        case hr => (simp only [List.getElem_toArray, List.getElem_cons_succ, List.getElem_cons_zero]; go_simp; try rfl)
        rintro e wc ⟨rfl, hba⟩
        have hSc := bthen hSb hba
        refine ⟨_, rfl, hSc, ?_⟩
        simp only [List.getElem_toArray, List.getElem_cons_succ, List.getElem_cons_zero, Act.put, List.setIfInBounds_toArray, List.set_cons_zero, List.set_cons_succ, Nat.reduceAdd, Nat.reduceSub]
        refine wpG_call (i := 9) rfl (by kernel_rfl) (by rfl) ?hr ((hadd _ hSc).mono ?_)
        case hr => (simp only [List.getElem_toArray, List.getElem_cons_succ, List.getElem_cons_zero]; go_simp; try rfl)
        rintro e wd ⟨rfl, hba⟩
        have hSd := bthen hSc hba
        refine ⟨_, rfl, hSd, ?_⟩
        simp only [List.getElem_toArray, List.getElem_cons_succ, List.getElem_cons_zero, Act.put, List.setIfInBounds_toArray, List.set_cons_zero, List.set_cons_succ, Nat.reduceAdd, Nat.reduceSub]
        refine wpG_yield (v := .int .i64 (T - U)) (i := 10) rfl (by kernel_rfl) (by rfl) ?hy ?_
        case hy => (intro w' hS'; obtain ⟨f1, f2⟩ := hF w' hS'; simp only [List.getElem_toArray, List.getElem_cons_succ, List.getElem_cons_zero]; go_simp; try (simp [IntKind.wrap, IntKind.bits, IntKind.signed]; omega))
        simp only [List.getElem_toArray, List.getElem_cons_succ, List.getElem_cons_zero, Act.put, List.setIfInBounds_toArray, List.set_cons_zero, List.set_cons_succ, Nat.reduceAdd, Nat.reduceSub]
        refine wpG_yield (v := .bool true) (i := 13) rfl (by kernel_rfl) (by rfl) ?hy ?_
        case hy => (intro w' hS'; obtain ⟨f1, f2⟩ := hF w' hS'; simp only [List.getElem_toArray, List.getElem_cons_succ, List.getElem_cons_zero]; go_simp; try (first | omega | simp <;> omega))
        simp only [List.getElem_toArray, List.getElem_cons_succ, List.getElem_cons_zero, Act.put, List.setIfInBounds_toArray, List.set_cons_zero, List.set_cons_succ, Nat.reduceAdd, Nat.reduceSub]
        refine wpG_done (by kernel_rfl) ?_
        simp only [List.drop_succ_cons, List.drop_zero]
        go_wp2
        go_ret
        exact ⟨rfl, bthen hBa hSd⟩
    · have hau := fun W (h : Below w.heap.size w W) => degree_Audit_bad W p l A Aq c cq (hl.below h) (hq.below h) (by omega) hE
      generalize netE p l = E at *
      clear hF hl hq hu
      obtain ⟨pnm, pnum, puses, pearn, pmn, pmd, qs⟩ := p
      dsimp only at *
      go_enter Tryz.func9, Tryz.ntmps9
      have hP := World.alloc_heap_new w (.cells #[.string pnm, .int .i64 pnum, .int .i64 puses, .int .i64 pearn, .int .i64 pmn, .int .i64 pmd, .slice Aq qs.length cq] 26)
      have hz := World.size_alloc w (.cells #[.string pnm, .int .i64 pnum, .int .i64 puses, .int .i64 pearn, .int .i64 pmn, .int .i64 pmd, .slice Aq qs.length cq] 26)
      go_wp2_with (first
        | (go_at_call 11; refine (hsn _).mono ?_; rintro e w1 ⟨rfl, hb1⟩; have hB1 := bthen (below1 w _) hb1; have hP1 := (hb1.block _ (by omega)).trans hP; have cP := blk_cell hP1; have hz1 := (Array.getElem?_eq_some_iff.1 hP1).1)
        | (go_at_call 12; refine (hfw _ hB1).mono ?_; rintro e w2 ⟨rfl, hb2⟩; have hB2 := bthen hB1 hb2; have cP2 := blk_cell ((hb2.block _ hz1).trans hP1))
        | (go_at_call 21; refine (hau _ hB2).mono ?_; rintro e w3 ⟨rfl, hb3⟩; have hB3 := bthen hB2 hb3))
      go_ret
      exact ⟨rfl, hB3.alloc hB3.size _⟩
end Go.Proofs.YtaiibchadlaifaaGreatDoor
