/-
  flow.Capacity of a cut in a valid network. Conditions: the edges and the cut read as data, the ends are valid, the cut parts them.
  An audit with its cut: what it tells of the network's capacity. Conditions: the arguments read as data, at most 60 attempts, all is valid.
  The reference's flows: a valid network and valid ends are found so. Conditions: the edges read as data, all is valid.
  The reference's search of a residual network: what it has found so far, in memory and in plain numbers. Conditions: none.
-/
import Derived.Deep.DeepCutAuto
import Derived.Test.YtaiibchadlaifaaGreatDoorZh
set_option linter.unusedVariables false
set_option linter.unusedSimpArgs false

namespace Go.Proofs.YtaiibchadlaifaaGreatDoor
open Go.RowKit Go.Shelf
attribute [local go_sem] Oper.semAt_some

def cutB (bs : List Bool) (v : Int) : Bool := decide (0 ≤ v) && (bs[v.toNat]?).getD false
theorem cutB_nat {bs : List Bool} {k : Nat} {b : Bool} (h : bs[k]? = some b) : cutB bs k = b := by simp [cutB, h]
theorem cutOf_cutB (bys : List Int) : cutOf bys = cutB (bys.map fun x => decide (0 ≤ x)) := funext fun v => by
  unfold cutOf cutB
  rw [List.getElem?_map]
theorem capC_bd {C : Int → Bool} : ∀ {l : List Edge}, (∀ e, e ∈ l → 0 ≤ e.m ∧ e.m ≤ 1073741824) → 0 ≤ capC C l ∧ capC C l ≤ 1073741824 * l.length
  | [], _ => by simp [capC]
  | e :: l, h => by
    have ih := capC_bd (C := C) (l := l) (fun x hx => h x (by simp [hx]))
    have := h e (by simp)
    simp only [capC, List.length_cons]
    split <;> omega
theorem capC_take {C : Int → Bool} {l : List Edge} {k : Nat} {e : Edge} (h : l[k]? = some e) : capC C (l.take (k + 1)) = capC C (l.take k) + (if C e.f && !C e.t then e.m else 0) := by
  rw [take_snoc_get h, capC_append]
  simp only [capC]; omega

set_option maxRecDepth 100000 in
set_option maxHeartbeats 4000000 in
theorem flow_Capacity_c (n s t : Nat) (l : List Edge) (bs : List Bool) (A AB : Option Addr) (c cb : Nat) (w : World) (h : Rd kEdge w A l) (hb : Rd kB w AB bs) (he : endsE n s t l = 0) (hn : bs.length = n) (hs : bs[s]? = some true) (ht : bs[t]? = some false) :
    Calls Tryz.prog 31 #[.int .i64 n, .slice A l.length c, .int .i64 s, .int .i64 t, .slice AB n cb] w fun e w' => e = .returned (.tuple #[.int .i64 (capC (cutB bs) l), .int .i64 0]) ∧ Below w.heap.size w w' := by
  have hc := flow_check_c n s t l A c w h
  obtain ⟨hE, _, hsn, _, htn, _⟩ := ends_ok he
  obtain ⟨h2, h4096, hl64, hok⟩ := flowE_ok hE
  have hm : ∀ e, e ∈ l → 0 ≤ e.m ∧ e.m ≤ 1073741824 := fun e q => by have := hok e q; unfold edgeOk at this; simp at this; omega
  have hnod : ∀ e, e ∈ l → 0 ≤ e.f ∧ e.f < n ∧ 0 ≤ e.t ∧ e.t < n := fun e q => by have := hok e q; unfold edgeOk at this; simp at this; omega
  rw [he] at hc
  have hbs := hb
  have hs' := (List.getElem?_eq_some_iff.1 hs).1
  have ht' := (List.getElem?_eq_some_iff.1 ht).1
  obtain ⟨xs, bB, oB, hxs, hAB, hbB, cs⟩ := kB_get hb hs'
  obtain ⟨xt, bB2, oB2, hxt, hAB2, hbB2, ct⟩ := kB_get hb ht'
  obtain rfl : xs = true := by have := hxs.out.symm.trans hs; injection this
  obtain rfl : xt = false := by have := hxt.out.symm.trans ht; injection this
  subst hAB
  injection hAB2 with hAB2
  injection hAB2 with e1 e2
  subst e1 e2
  have HL : Hid (Rd kEdge w A l ∧ Rd kB w (some ⟨bB, oB, none⟩) bs ∧ (∀ e, e ∈ l → 0 ≤ e.m ∧ e.m ≤ 1073741824) ∧ (∀ e, e ∈ l → 0 ≤ e.f ∧ e.f < n ∧ 0 ≤ e.t ∧ e.t < n)) := ⟨h, hbs, hm, hnod⟩
  have hll := h.len
  clear h hb hbs hm hnod hok he hE hxs hxt
  go_enter Tryz.func31, Tryz.ntmps31
  go_wp2_with (go_at_call 72; refine hc.mono ?_; rintro e w1 ⟨rfl, hb1⟩; have cs1 := (hb1.cell (p := ⟨bB, oB + s, none⟩) hbB).trans cs; have ct1 := (hb1.cell (p := ⟨bB, oB + t, none⟩) hbB).trans ct)
  go_loopw [10, 14, 42] (fun m _ i wr => ∃ k : Nat, k ≤ l.length ∧ i = .int .i64 k ∧ m = .int .i64 (capC (cutB bs) (l.take k)) ∧ Below w.heap.size w wr) (fun _ _ i _ => l.length - (intOf i).toNat)
  case atStart => exact ⟨0, Nat.zero_le _, rfl, rfl, hb1⟩
  case round =>
    obtain ⟨k, hk, rfl, rfl, hBr⟩ := hrel
    obtain ⟨hA, hBb, hm, hnod⟩ := HL.out
    obtain ⟨T, hT⟩ : ∃ T, T = capC (cutB bs) (l.take k) := ⟨_, rfl⟩
    have hTb := capC_bd (C := cutB bs) (l := l.take k) (fun e q => hm e (List.mem_of_mem_take q))
    have htl : (l.take k).length ≤ k := List.length_take_le _ _
    have hT0 : 0 ≤ T ∧ T ≤ 70368744177664 := by rw [hT]; omega
    obtain ⟨hT1, hT2⟩ := hT0
    clear hTb htl
    by_cases hlt : k < l.length
    · obtain ⟨x, b, off, hx, rfl, hbl, f0, f1, f2⟩ := kEdge_get (hA.below hBr) hlt
      have hxm := hm x (List.mem_of_getElem? hx.out)
      have hxn := hnod x (List.mem_of_getElem? hx.out)
      have hstep := capC_take (C := cutB bs) hx.out
      rw [← hT] at hstep
      rw [← hT]
      obtain ⟨xf, xt, xm⟩ := x
      dsimp only at *
      obtain ⟨kf, rfl⟩ : ∃ kf : Nat, xf = kf := ⟨xf.toNat, by omega⟩
      obtain ⟨kt, rfl⟩ : ∃ kt : Nat, xt = kt := ⟨xt.toNat, by omega⟩
      obtain ⟨y, by', oy, hy, hAy, hby, cy⟩ := kB_get (hBb.below hBr) (show kf < bs.length by omega)
      obtain ⟨z, bz, oz, hz, hAz, hbz, cz⟩ := kB_get (hBb.below hBr) (show kt < bs.length by omega)
      injection hAy with hAy
      injection hAy with e1 e2
      subst e1 e2
      injection hAz with hAz
      injection hAz with e1 e2
      subst e1 e2
      rw [cutB_nat hy.out, cutB_nat hz.out] at hstep
      have h0f : (0 : Int) ≤ kf := by omega
      have h0t : (0 : Int) ≤ kt := by omega
      have hfn : (kf : Int) < n := hxn.2.1
      have htn2 : (kt : Int) < n := hxn.2.2.2
      obtain ⟨hm0, hm1⟩ := hxm
      have HT : Hid (T = capC (cutB bs) (l.take k)) := hT
      clear hT hA hBb hm hnod hx hy hz hxn
      have hnA := fun cs : Array Value => World.alloc_heap_new wr (.cells cs 85)
      cases y
      · have HS : Hid (capC (cutB bs) (l.take (k + 1)) = T) := by show _ = _; rw [hstep]; simp
        clear hstep
        go_wp2
        go_roundw
        case rel => exact ⟨k + 1, hlt, by go_num, by rw [HS.out], hBr.alloc (by have := hBr.size; omega) _⟩
        case measure => simp [intOf]; omega
      · cases z
        · have HS : Hid (capC (cutB bs) (l.take (k + 1)) = T + xm) := by show _ = _; rw [hstep]; simp
          clear hstep
          go_wp2
          go_roundw
          case rel => exact ⟨k + 1, hlt, by go_num, by rw [HS.out], hBr.alloc (by have := hBr.size; omega) _⟩
          case measure => simp [intOf]; omega
        · have HS : Hid (capC (cutB bs) (l.take (k + 1)) = T) := by show _ = _; rw [hstep]; simp
          clear hstep
          go_wp2
          go_roundw
          case rel => exact ⟨k + 1, hlt, by go_num, by rw [HS.out], hBr.alloc (by have := hBr.size; omega) _⟩
          case measure => simp [intOf]; omega
    · obtain rfl : k = l.length := by omega
      rw [List.take_length] at hT
      rw [List.take_length, ← hT]
      have HT : Hid (T = capC (cutB bs) l) := hT
      clear hA hBb hm hnod hT
      go_wp2
      exact bodyPost_ret (v := .tuple #[.int .i64 T, .int .i64 0]) (by simp [results, Tryz.results31, go_sem]) rfl ⟨by rw [HT.out], hBr⟩
end Go.Proofs.YtaiibchadlaifaaGreatDoor

namespace Go.Proofs.YtaiibchadlaifaaGreatDoor
open Go.RowKit Go.Shelf

def AuditC (p : Prg) (l : List Att) (N : Nat) (w w' : World) (e : Ending) : Prop :=
  ∃ AU nU cU cb bs x, e = .returned (.tuple #[.agg #[.slice AU nU cU, .int .i64 x, .slice (some ⟨cb, 0, none⟩) N N], .int .i64 0]) ∧ Rd kB w' (some ⟨cb, 0, none⟩) bs ∧ bs.length = N ∧ bs[0]? = some true ∧ bs[N - 1]? = some false ∧ capC (cutB bs) (netL p l) = totalC p.reqs - x ∧ MissP p l x ∧ Below w.heap.size w w'
theorem rd_bools {w : World} {B : Nat} {T : TypeId} {f : Nat × Nat} {bs : List Bool} (h : w.heap[B]? = some (.cells (bs.map Value.bool).toArray T f)) (hl : bs.length ≤ 9223372036854775807) : Rd kB w (some ⟨B, 0, none⟩) bs :=
  ⟨hl, fun _ => ⟨B, 0, rfl, fun i y hy => ⟨[.bool y], rfl, fun j v hj => by
    cases j with
    | succ j => simp at hj
    | zero =>
      obtain rfl : Value.bool y = v := by simpa using hj
      rw [blk_cell h]
      simp [kB, Kd.flat, hy]⟩⟩⟩
theorem degree_Audit_cut (w : World) (p : Prg) (l : List Att) (A Aq : Option Addr) (c cq : Nat) (hl : Rd kAtt w A l) (hq : Rd kReq w Aq p.reqs) (hm : l.length ≤ 60) (hE : netE p l = 0) :
    Calls Tryz.prog 21 #[.agg #[.string p.nm, .int .i64 p.num, .int .i64 p.uses, .int .i64 p.earn, .int .i64 p.mn, .int .i64 p.md, .slice Aq p.reqs.length cq], .slice A l.length c] w fun e w' => AuditC p l (2 + l.length + p.reqs.length) w w' e := by
  refine (degree_Audit_good w p l A Aq c cq hl hq hm hE).mono ?_
  rintro e w' ⟨F, bys, uv, cb, hspec, hbl, rfl, hown, hcb, hcut, hB⟩
  obtain ⟨AU, cU, rfl, hrd⟩ := rd_uses hown
  have hr64 := (prg_ok (netE_ok hE).1).2.2.1
  have hval := hspec.value (netL_nodes p l) (by omega) (by omega)
  have hs := hspec.hs
  have ht := hspec.ht
  rw [cutOf_cutB] at hs ht hval
  have hbl' : (bys.map fun x => decide (0 ≤ x)).length = 2 + l.length + p.reqs.length := by rw [List.length_map, hbl]
  have hcut' : w'.heap[cb]? = some (.cells (((bys.map fun x => decide (0 ≤ x)).map Value.bool).toArray) 4 (0, 0)) := by rw [hcut, List.map_map]; rfl
  have g0 := List.getElem?_eq_getElem (l := bys.map fun x => decide (0 ≤ x)) (i := 0) (by omega)
  have g1 := List.getElem?_eq_getElem (l := bys.map fun x => decide (0 ≤ x)) (i := 1 + l.length + p.reqs.length) (by omega)
  have e0 := cutB_nat g0
  have e1 := cutB_nat g1
  rw [show ((0 : Nat) : Int) = 0 from rfl, hs] at e0
  rw [ht] at e1
  rw [← e0] at g0
  rw [← e1] at g1
  refine ⟨AU, _, cU, cb, _, _, rfl, rd_bools hcut' (by omega), hbl', g0, ?_, ?_, ⟨F, _, hspec, ?_⟩, hB⟩
  · rw [show 2 + l.length + p.reqs.length - 1 = 1 + l.length + p.reqs.length by omega]; exact g1
  · rw [← hval, used_value hspec.ok (cons_cast hspec.cons)]; omega
  · rw [used_value hspec.ok (cons_cast hspec.cons)]
end Go.Proofs.YtaiibchadlaifaaGreatDoor

namespace Go.Proofs.YtaiibchadlaifaaGreatDoor
open Go.RowKit Go.Shelf

set_option maxRecDepth 100000 in
set_option maxHeartbeats 4000000 in
theorem ref18_Check_ok (n : Int) (l : List Edge) (A : Option Addr) (c : Nat) (w : World) (h : Rd kEdge w A l) (he : flowE n l = 0) :
    Calls Tryz.prog 143 #[.int .i64 n, .slice A l.length c] w fun e w' => e = .returned (.int .i64 0) ∧ Below w.heap.size w w' := by
  obtain ⟨h2, h4096, hl64, hok⟩ := flowE_ok he
  have hll := h.len
  have HL : Hid (Rd kEdge w A l ∧ ∀ e, e ∈ l → edgeOk n e = true) := ⟨h, hok⟩
  have hl64' : (l.length : Int) ≤ 65536 := by omega
  clear h hok he
  go_enter Tryz.func143, Tryz.ntmps143
  go_wp2
  go_loopw [5, 6] (fun i _ wr => ∃ k : Nat, k ≤ l.length ∧ i = .int .i64 k ∧ Below w.heap.size w wr) (fun i _ _ => l.length - (intOf i).toNat)
  case atStart => exact ⟨0, Nat.zero_le _, rfl, Below.refl _ _⟩
  case round =>
    obtain ⟨k, hk, rfl, hBr⟩ := hrel
    by_cases hlt : k < l.length
    · obtain ⟨x, b, off, hx, rfl, hb, f0, f1, f2⟩ := kEdge_get (HL.out.1.below hBr) hlt
      have hxo := HL.out.2 x (List.mem_of_getElem? hx.out)
      obtain ⟨xf, xt, xm⟩ := x
      unfold edgeOk at hxo
      simp only [decide_eq_true_eq] at hxo
      obtain ⟨q1, q2, q3, q4, q5, q6, q7⟩ := hxo
      dsimp only at f0 f1 f2
      have q8 : (xf == xt) = false := by simpa using q5
      clear hx
      go_wp2
      go_roundw
      case rel => exact ⟨k + 1, hlt, by go_num, hBr.alloc (by have := hBr.size; omega) _⟩
      case measure => simp [intOf]; omega
    · obtain rfl : k = l.length := by omega
      go_wp2
      go_ret
      exact ⟨rfl, hBr⟩

set_option maxRecDepth 100000 in
set_option maxHeartbeats 4000000 in
theorem ref18_ends_ok (n s t : Int) (l : List Edge) (A : Option Addr) (c : Nat) (w : World) (h : Rd kEdge w A l) (he : endsE n s t l = 0) :
    Calls Tryz.prog 93 #[.int .i64 n, .slice A l.length c, .int .i64 s, .int .i64 t] w fun e w' => e = .returned (.bool true) ∧ Below w.heap.size w w' := by
  obtain ⟨hE, q1, q2, q3, q4, q5⟩ := ends_ok he
  have hc := ref18_Check_ok n l A c w h hE
  have q6 : (s == t) = false := by simpa using q5
  have q7 : (s != t) = true := by simpa using q5
  clear h he hE
  go_enter Tryz.func93, Tryz.ntmps93
  go_wp2_with (go_at_call 143; refine hc.mono ?_; rintro e w1 ⟨rfl, hb1⟩)
  go_ret
  exact ⟨rfl, hb1⟩
end Go.Proofs.YtaiibchadlaifaaGreatDoor

namespace Go.Proofs.YtaiibchadlaifaaGreatDoor
open Go.RowKit Go.Shelf

theorem cap_even {l : List Edge} {F : List Int} {m : Nat} {e : Edge} {y : Int} (he : l[m]? = some e) (hy : F[m]? = some y) : capR l F (2 * m) = e.m - y ∧ begR l (2 * m) = e.f ∧ endR l (2 * m) = e.t := by
  have h1 : 2 * m % 2 = 0 := by omega
  have h2 : 2 * m / 2 = m := by omega
  unfold capR begR endR
  simp only [h1, h2, he, hy, if_true, Option.map_some, Option.getD_some]
  exact ⟨trivial, trivial, trivial⟩
theorem cap_odd {l : List Edge} {F : List Int} {m : Nat} {e : Edge} {y : Int} (he : l[m]? = some e) (hy : F[m]? = some y) : capR l F (2 * m + 1) = y ∧ begR l (2 * m + 1) = e.t ∧ endR l (2 * m + 1) = e.f := by
  have h1 : (2 * m + 1) % 2 ≠ 0 := by omega
  have h2 : (2 * m + 1) / 2 = m := by omega
  unfold capR begR endR
  simp only [h1, h2, he, hy, if_false, Option.map_some, Option.getD_some]
  exact ⟨trivial, trivial, trivial⟩
/-- How the reference spells by which residual edge a node was reached. -/
def byI (L : Nat) (x : Int) : Int := if x < 0 ∨ x = 2 * L then 0 else if x % 2 = 0 then x / 2 + 1 else -(x / 2 + 1)
theorem byI_even {L i : Nat} (h : i < L) : byI L ((2 * i : Nat) : Int) = i + 1 := by unfold byI; rw [if_neg (by omega), if_pos (by omega)]; omega
theorem byI_odd {L i : Nat} (_h : i < L) : byI L ((2 * i + 1 : Nat) : Int) = -(i + 1) := by unfold byI; rw [if_neg (by omega), if_neg (by omega)]; omega
def metV (x : Int) : Value := .bool (decide (0 ≤ x))
def byV (L : Nat) (x : Int) : Value := .int .i64 (byI L x)
/-- All that leaves a node along the first m residual edges has been reached. -/
def Cl (l : List Edge) (F : List Int) (vis : List Nat) (v m : Nat) : Prop := ∀ r, r < m → 0 < capR l F r → begR l r = v → ∃ u : Nat, u ∈ vis ∧ endR l r = u
theorem Cl.more {l : List Edge} {F : List Int} {vis : List Nat} {v m u : Nat} (h : Cl l F vis v m) : Cl l F (vis ++ [u]) v m := fun r h1 h2 h3 => by
  obtain ⟨x, hx, e⟩ := h r h1 h2 h3
  exact ⟨x, List.mem_append_left _ hx, e⟩
theorem Cl.next {l : List Edge} {F : List Int} {vis : List Nat} {v m : Nat} (h : Cl l F vis v m) (h2 : 0 < capR l F m → begR l m = v → ∃ u : Nat, u ∈ vis ∧ endR l m = u) : Cl l F vis v (m + 1) := fun r hr hc hb => by
  by_cases e : r = m
  · subst e; exact h2 hc hb
  · exact h r (by omega) hc hb
theorem snoc_at {vis : List Nat} {k v u : Nat} (h : vis[k]? = some v) : (vis ++ [u])[k]? = some v := by rw [List.getElem?_append_left (List.getElem?_eq_some_iff.1 h).1]; exact h
theorem closed_snoc {l : List Edge} {F : List Int} {vis : List Nat} {k v u M : Nat} (hv : vis[k]? = some v) (h : ∀ j x, j < k → vis[j]? = some x → Cl l F vis x M) : ∀ j x, j < k → (vis ++ [u])[j]? = some x → Cl l F (vis ++ [u]) x M := fun j x hj hx => by
  have hk := (List.getElem?_eq_some_iff.1 hv).1
  rw [List.getElem?_append_left (by omega)] at hx
  exact (h j x hj hx).more
theorem nodup_le : ∀ {n : Nat} {xs : List Nat}, xs.Nodup → (∀ x, x ∈ xs → x < n) → xs.length ≤ n
  | 0, xs, _, h => by
    cases xs with
    | nil => simp
    | cons x xs => exact absurd (h x (by simp)) (by omega)
  | n + 1, xs, hn, h => by
    by_cases hm : n ∈ xs
    · have h1 := nodup_le (n := n) (xs := xs.erase n) (hn.erase n) (fun x hx => by
        have h2 := (hn.mem_erase_iff).1 hx
        have := h x h2.2
        omega)
      rw [List.length_erase_of_mem hm] at h1
      omega
    · have := nodup_le (n := n) (xs := xs) hn (fun x hx => by
        have h2 := h x hx
        have : x ≠ n := by rintro rfl; exact hm hx
        omega)
      omega
/-- A row of the call's own stays so where its own block lies as it lay. -/
theorem OwnF.keep1 {α : Type} {enc : α → List Value} {sz : Nat} {e base : Nat} {w w' : World} {v : Value} {xs : List α} (h : OwnF enc sz e base w v xs) (k : ∀ g, v.ownBlock = some g → w'.heap[g]? = w.heap[g]?) : OwnF enc sz e base w' v xs := by
  obtain ⟨hl, h | ⟨g, cap, cur, h1, h2, h3, h4⟩⟩ := h
  · exact ⟨hl, .inl h⟩
  · exact ⟨hl, .inr ⟨g, cap, cur, h1, h2, (k g (by rw [h1]; rfl)).trans h3, h4⟩⟩

structure RSt (l : List Edge) (F : List Int) (n s B gm gb : Nat) (W0 : World) (bys : List Int) (vis : List Nat) (qv : Value) (W : World) : Prop where
  reach : Reach l F n s bys vis
  met : W.heap[gm]? = some (.cells (bys.map metV).toArray 4 (0, 0))
  byb : W.heap[gb]? = some (.cells (bys.map (byV l.length)).toArray 3 (0, 0))
  que : OwnF encI 1 3 B W qv (vis.map fun v : Nat => (v : Int))
  apart : ∀ k, qv.ownBlock = some k → k ≠ gb
  low : Below B W0 W
  le : B ≤ W0.heap.size
  hm : B ≤ gm
  hb : B ≤ gb
theorem RSt.size {l : List Edge} {F : List Int} {n s B gm gb : Nat} {W0 : World} {bys : List Int} {vis : List Nat} {qv : Value} {W : World} (h : RSt l F n s B gm gb W0 bys vis qv W) : B ≤ W.heap.size := Nat.le_trans h.le h.low.size
theorem RSt.ne {l : List Edge} {F : List Int} {n s B gm gb : Nat} {W0 : World} {bys : List Int} {vis : List Nat} {qv : Value} {W : World} (h : RSt l F n s B gm gb W0 bys vis qv W) : gm ≠ gb := by
  rintro rfl
  have := h.met.symm.trans h.byb
  simp at this
theorem RSt.out_of {l : List Edge} {F : List Int} {n s B gm gb : Nat} {W0 : World} {bys : List Int} {vis : List Nat} {qv : Value} {W : World} (h : RSt l F n s B gm gb W0 bys vis qv W) {u : Nat} {z : Int} (hu : u < n) (hz : bys[u]? = some z) (h0 : z < 0) : u ∉ vis := fun hm => by
  have := (h.reach.mem hu hz).1 hm; omega
theorem RSt.drew {l : List Edge} {F : List Int} {n s B gm gb : Nat} {W0 : World} {bys : List Int} {vis : List Nat} {qv : Value} {W : World} (h : RSt l F n s B gm gb W0 bys vis qv W) : RSt l F n s B gm gb W0 bys vis qv W.drew :=
  { h with low := h.low.drew, que := h.que.below (Below.refl _ _).drew }
/-- The two stores, ahead of the queue. -/
theorem RSt.stored {l : List Edge} {F : List Int} {n s B gm gb : Nat} {W0 : World} {bys : List Int} {vis : List Nat} {qv : Value} {W : World} (h : RSt l F n s B gm gb W0 bys vis qv W) (u r : Nat) :
    ((W.setCell ⟨gm, u, none⟩ (.bool true)).setCell ⟨gb, u, none⟩ (byV l.length r)).heap[gm]? = some (.cells ((bys.set u (r : Int)).map metV).toArray 4 (0, 0)) ∧
    ((W.setCell ⟨gm, u, none⟩ (.bool true)).setCell ⟨gb, u, none⟩ (byV l.length r)).heap[gb]? = some (.cells ((bys.set u (r : Int)).map (byV l.length)).toArray 3 (0, 0)) ∧
    OwnF encI 1 3 B ((W.setCell ⟨gm, u, none⟩ (.bool true)).setCell ⟨gb, u, none⟩ (byV l.length r)) qv (vis.map fun v : Nat => (v : Int)) ∧
    Below B W0 ((W.setCell ⟨gm, u, none⟩ (.bool true)).setCell ⟨gb, u, none⟩ (byV l.length r)) := by
  have hne := h.ne
  have e1 := heap_setCell_same W gm u _ _ (.bool true) h.met
  have e2 : (W.setCell ⟨gm, u, none⟩ (.bool true)).heap[gb]? = _ := (Below.heap_setCell W ⟨gm, u, none⟩ (.bool true) gb (Ne.symm hne)).trans h.byb
  have e3 := heap_setCell_same _ gb u _ _ (byV l.length r) e2
  have e4 := (Below.heap_setCell (W.setCell ⟨gm, u, none⟩ (.bool true)) ⟨gb, u, none⟩ (byV l.length r) gm hne).trans e1
  refine ⟨?_, ?_, ?_, ?_⟩
  · rw [e4, List.map_set]; simp [metV]
  · rw [e3, List.map_set]; simp
  · refine h.que.keep1 fun b hb => ?_
    obtain ⟨_, cur, f, hh⟩ := h.que.row b hb
    have hb1 : b ≠ gm := by rintro rfl; rw [h.met] at hh; simp at hh
    rw [Below.heap_setCell _ _ _ _ (h.apart b hb), Below.heap_setCell _ _ _ _ hb1]
  · exact (h.low.setCell (p := ⟨gm, u, none⟩) h.hm _).setCell (p := ⟨gb, u, none⟩) h.hb _
theorem RSt.pushed {l : List Edge} {F : List Int} {n s B gm gb : Nat} {W0 : World} {bys : List Int} {vis : List Nat} {qv qv' : Value} {W W1 W2 W' : World} (h : RSt l F n s B gm gb W0 bys vis qv W) {u v r : Nat} (hu : u < n) (hn : u ∉ vis) (hv : v ∈ vis) (hr : r < 2 * l.length) (hc : 0 < capR l F r) (he : endR l r = u) (hbg : begR l r = v)
    (h1 : W1 = (W.setCell ⟨gm, u, none⟩ (.bool true)).setCell ⟨gb, u, none⟩ (byV l.length r)) (h2 : Below W1.heap.size W1 W2) (hg : W2.grownBy W' qv.ownBlock) (ho : OwnF encI 1 3 B W' qv' ((vis.map fun v : Nat => (v : Int)) ++ [(u : Int)])) (hk : qv'.ownBlock = qv.ownBlock ∨ qv'.ownBlock = some W2.heap.size) :
    RSt l F n s B gm gb W0 (bys.set u (r : Int)) (vis ++ [u]) qv' W' := by
  obtain ⟨a1, a2, a3, a4⟩ := h.stored u r
  rw [← h1] at a1 a2 a3 a4
  have b1 := (h2.block _ (Array.getElem?_eq_some_iff.1 a1).1).trans a1
  have b2 := (h2.block _ (Array.getElem?_eq_some_iff.1 a2).1).trans a2
  have b3 := a3.below h2
  have hsz1 : B ≤ W1.heap.size := Nat.le_trans h.le a4.size
  have b4 := a4.trans (h2.mono hsz1)
  have hkeep : ∀ b o, W2.heap[b]? = some o → (∀ k, qv.ownBlock = some k → b ≠ k) → W'.heap[b]? = some o := fun b o hb hn => (hg.block b (Array.getElem?_eq_some_iff.1 hb).1 (fun e => hn b e.symm rfl)).trans hb
  refine ⟨h.reach.step hu hn hv hr hc he hbg, hkeep _ _ b1 (fun k hq e => ?_), hkeep _ _ b2 (fun k hq e => h.apart k hq e.symm), ?_, fun k hq e => ?_, b4.grown hg (Nat.le_trans hsz1 h2.size) (fun k e => (b3.row k e).1), h.le, h.hm, h.hb⟩
  · subst e
    obtain ⟨_, cur, f, hh⟩ := b3.row _ hq
    rw [b1] at hh; simp at hh
  · rw [List.map_append]; exact ho
  · subst e
    rcases hk with hk | hk
    · exact h.apart _ (hk.symm.trans hq) rfl
    · rw [hk] at hq
      have := (Array.getElem?_eq_some_iff.1 b2).1
      injection hq with hq
      omega
theorem RSt.start (l : List Edge) (F : List Int) {n s : Nat} (hs : s < n) (w : World) :
    RSt l F n s w.heap.size w.heap.size (w.heap.size + 1) w ((List.replicate n (-1)).set s ((2 * l.length : Nat) : Int)) [s] (.slice (some ⟨w.heap.size + 1 + 1, 0, none⟩) 1 1)
      (((w.alloc (.cells ((List.replicate n (Value.bool false)).set s (.bool true)).toArray 4)).alloc (.cells (List.replicate n (Value.int .i64 0)).toArray 3)).alloc (.cells #[.int .i64 s] 3)) := by
  have e1 : ((List.replicate n (-1 : Int)).set s ((2 * l.length : Nat) : Int)).map metV = (List.replicate n (Value.bool false)).set s (.bool true) := by
    rw [List.map_set, List.map_replicate]
    have : metV ((2 * l.length : Nat) : Int) = .bool true := by unfold metV; rw [decide_eq_true (by omega)]
    rw [this]; rfl
  have e2 : ((List.replicate n (-1 : Int)).set s ((2 * l.length : Nat) : Int)).map (byV l.length) = List.replicate n (Value.int .i64 0) := by
    rw [List.map_set, List.map_replicate]
    have h1 : byV l.length ((2 * l.length : Nat) : Int) = .int .i64 0 := by unfold byV byI; rw [if_pos (by omega)]
    have h2 : byV l.length (-1) = .int .i64 0 := by unfold byV byI; rw [if_pos (by omega)]
    rw [h1, h2]
    apply List.ext_getElem?
    intro i
    by_cases e : s = i
    · subst e; simp [hs]
    · rw [List.getElem?_set_ne e]
  refine ⟨Reach.start l F hs, ?_, ?_, ?_, fun k hk => ?_, below3 w _ _ _, Nat.le_refl _, Nat.le_refl _, by omega⟩
  · rw [e1]; exact (Below.heap_alloc _ _ _ (by simp; omega)).trans (alloc2_blk0 w _ _)
  · rw [e2]; exact alloc3_blk1 w _ _ _
  · refine ⟨rfl, .inr ⟨_, 1, #[.int .i64 s], rfl, by omega, alloc3_blk2 w _ _ _, by simp, by simp [maxLen], rfl, rfl⟩⟩
  · simp [Value.ownBlock] at hk; omega
end Go.Proofs.YtaiibchadlaifaaGreatDoor
