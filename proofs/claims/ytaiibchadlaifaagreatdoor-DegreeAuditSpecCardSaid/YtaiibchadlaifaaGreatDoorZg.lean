/-
  The law's sane: true. Conditions: none.
  What a flow of an audit's network counts is no more than the programme asks, in plain Lean. Conditions: none.
  Every assignment is a flow of the audit's network; more attempts and more uses take no assignment away: in plain Lean. Conditions: none.
  What a row's law asks behind a call, from Below: nothing that lay there has changed. Conditions: the arguments read whole.
  The arguments of the laws, opened: from what they read as to the lists of these proofs. Conditions: the arguments are read as data.
  From a law's contract to its row: the input that fits, the arguments behind the call. Conditions: none.
-/
import Derived.ChangeSame
import Derived.RowKit
import Derived.Deep.Slices
import Derived.WideKeyArgs
import Derived.Test.YtaiibchadlaifaaGreatDoorCards
import Derived.Test.YtaiibchadlaifaaGreatDoorTie
import Derived.WalkKit
import Derived.ProofKit
import Derived.OpenShut
import Derived.LaidMore
import Derived.OpenVars
import Derived.SevenTiedAt
import Derived.Stop.Joined
import Derived.Test.YtaiibchadlaifaaGreatDoorZf
set_option linter.unusedVariables false
set_option linter.unusedSimpArgs false

namespace Go.Proofs.YtaiibchadlaifaaGreatDoor
open Go.RowKit Go.Shelf
attribute [local go_sem] Oper.semAt_some

theorem alloc4_blk (w : World) (a b c d : Obj) : ((((w.alloc a).alloc b).alloc c).alloc d).heap[w.heap.size]? = some a ∧ ((((w.alloc a).alloc b).alloc c).alloc d).heap[w.heap.size + 1]? = some b ∧ ((((w.alloc a).alloc b).alloc c).alloc d).heap[w.heap.size + 1 + 1]? = some c ∧ ((((w.alloc a).alloc b).alloc c).alloc d).heap[w.heap.size + 1 + 1 + 1]? = some d ∧ Below w.heap.size w ((((w.alloc a).alloc b).alloc c).alloc d) :=
  ⟨(Below.heap_alloc _ _ _ (by rw [alloc3_size]; omega)).trans (alloc3_blk0 w a b c), (Below.heap_alloc _ _ _ (by rw [alloc3_size]; omega)).trans (alloc3_blk1 w a b c), alloc4_blk2 w a b c d, alloc4_blk3 w a b c d, (below3 w a b c).alloc (by rw [alloc3_size]; omega) _⟩
def homeQ : List Req := [⟨⟨#[]⟩, 6, 0, true, none, 0, 0, [7]⟩]
def homeP : Prg := ⟨⟨#[]⟩, 1, 1, 0, 0, 1, homeQ⟩
theorem rd_home {w : World} {b b1 : Nat} {T T1 : TypeId} (h : w.heap[b]? = some (.cells #[.string ⟨#[]⟩, .int .i64 6, .int .i64 0, .bool true, .slice none 0 0, .slice (some ⟨b1, 0, none⟩) 1 1] T (0, 0)))
    (h1 : w.heap[b1]? = some (.cells #[.int .i64 7] T1 (0, 0))) : Rd kReq w (some ⟨b, 0, none⟩) homeQ := by
  refine ⟨by simp [homeQ], fun _ => ⟨b, 0, rfl, fun i u hu => ?_⟩⟩
  rcases i with _ | i
  · simp [homeQ] at hu; subst hu
    refine ⟨_, ⟨some ⟨b1, 0, none⟩, 1, rfl, by simp, ⟨by simp, fun _ => ⟨b1, 0, rfl, fun i u hu => ⟨_, rfl, fun j v hj => ?_⟩⟩⟩⟩, fun j v hj => ?_⟩
    · rw [blk_cell h1]
      rcases i with _ | i
      · simp at hu; subst hu; rcases j with _ | j <;> simp_all [kI, Kd.flat]
      · simp at hu
    · rw [blk_cell h]
      rcases j with _ | _ | _ | _ | _ | _ | j <;> simp_all [kReq]
  · simp [homeQ] at hu
theorem rd_uses {w : World} {v : Value} {us : List Use} {base : Nat} {e : Nat} (h : OwnF Use.enc 3 e base w v us) : ∃ A c, v = .slice A us.length c ∧ Rd kUse w A us := by
  obtain ⟨A, c, h1, _, h2⟩ := h.rd use_len
  exact ⟨A, c, h1, h2⟩

/-- Audit of the sample: 1 is missing, the uses are an assignment of 9. -/
theorem samp_audit (W : World) (A1 A2 : Option Addr) (hq : Rd kReq W A1 sampQ) (hl : Rd kAtt W A2 sampL) :
    Calls Tryz.prog 21 #[.agg #[.string ⟨#[]⟩, .int .i64 1, .int .i64 1, .int .i64 0, .int .i64 0, .int .i64 1, .slice A1 2 2], .slice A2 2 2] W fun e w' => ∃ us A c CB cn, e = .returned (.tuple #[.agg #[.slice A us.length c, .int .i64 1, .slice CB cn cn], .int .i64 0]) ∧ Rd kUse w' A us ∧ usedC us = 9 ∧ asgB 1 sampQ sampL us = true ∧ us.length ≤ 1000 ∧ Below W.heap.size W w' := by
  refine (degree_Audit_good W sampP sampL A2 A1 2 2 hl hq (by simp [sampL]) samp_netE).mono ?_
  rintro e w' ⟨F, bys, uv, cb, hspec, hbl, rfl, hown, hcb, hcut, hB⟩
  obtain ⟨A, c, rfl, hrd⟩ := rd_uses hown
  have hspec : MaxSpec 6 0 5 (netL sampP sampL) F (cutOf bys) := hspec
  have h9 := samp_used hspec
  have hasg := samp_asg hspec
  have hul := usesL_len (pairsL sampP.reqs sampL) (F.drop sampL.length)
  have hpl : (pairsL sampP.reqs sampL).length = 4 := by rfl
  have ht : totalC sampP.reqs = 10 := by rfl
  exact ⟨_, A, c, _, _, by rw [h9, ht]; rfl, hrd, h9, hasg, by omega, hB⟩

/-- Audit of the empty programme without attempts: nothing is missing. -/
theorem none_audit (W : World) : Calls Tryz.prog 21 #[.agg #[.string ⟨#[]⟩, .int .i64 0, .int .i64 1, .int .i64 0, .int .i64 0, .int .i64 1, .slice none 0 0], .slice none 0 0] W fun e w' => ∃ U un uc CB cn, e = .returned (.tuple #[.agg #[.slice U un uc, .int .i64 0, .slice CB cn cn], .int .i64 0]) ∧ Below W.heap.size W w' := by
  refine (degree_Audit_good W ⟨⟨#[]⟩, 0, 1, 0, 0, 1, []⟩ [] none none 0 0 (Rd.nil _ _ _) (Rd.nil _ _ _) (by simp) (by decide)).mono ?_
  rintro e w' ⟨F, bys, uv, cb, hspec, hbl, rfl, hown, hcb, hcut, hB⟩
  obtain ⟨A, c, rfl, hrd⟩ := rd_uses hown
  exact ⟨A, _, c, _, _, rfl, hB⟩

set_option maxRecDepth 100000 in
set_option maxHeartbeats 16000000 in
theorem sane_c (w : World) :
    Calls Tryz.prog 11 #[] w fun e w' => e = .returned (.bool true) ∧ Below w.heap.size w w' := by
  have hsm := fun W => sample_c W
  have hof := fun W => degree_Of_c W
  go_enter Tryz.func11, Tryz.ntmps11
  go_wp2_with (go_at_call 33; refine (hsm _).mono ?_; refine stopHere ?_)
  unfold Stopped
  rintro e w1 ⟨A1, A2, rfl, hq1, hl1, hb1⟩
  go_wp2_with fail
  have hbP := below1 w1 (.cells #[.string ⟨#[]⟩, .int .i64 1, .int .i64 1, .int .i64 0, .int .i64 0, .int .i64 1, .slice A1 2 2] 26)
  have hP1 := World.alloc_heap_new w1 (.cells #[.string ⟨#[]⟩, .int .i64 1, .int .i64 1, .int .i64 0, .int .i64 0, .int .i64 1, .slice A1 2 2] 26)
  have hau := fun W (h : Below w1.heap.size w1 W) => samp_audit W A1 A2 (hq1.below h) (hl1.below h)
  have hsP := World.size_alloc w1 (.cells #[.string ⟨#[]⟩, .int .i64 1, .int .i64 1, .int .i64 0, .int .i64 0, .int .i64 1, .slice A1 2 2] 26)
  generalize w1.alloc _ = w2 at *
  refine (hau _ hbP).mono ?_
  rintro e w3 ⟨us, AU, cU, CB, cn, rfl, hu3, h9, hasg, hun, hb3⟩
  have hB3 := bthen hb1 (bthen hbP hb3)
  have h1_3 : Below w1.heap.size w1 w3 := bthen hbP hb3
  have hP3 := (hb3.block w1.heap.size (by omega)).trans hP1
  have hzP3 : w1.heap.size < w3.heap.size := (Array.getElem?_eq_some_iff.1 hP3).1
  clear hb3 hP1 hau
  go_wp2_with (go_at_call 21; refine (none_audit _).mono ?_; refine stopHere ?_)
  unfold Stopped
  have hA4 := World.alloc_heap_new w3 (.cells #[.slice AU us.length cU, .int .i64 1, .slice CB cn cn] 45)
  have hs4 := World.size_alloc w3 (.cells #[.slice AU us.length cU, .int .i64 1, .slice CB cn cn] 45)
  have hb4 := below1 w3 (.cells #[.slice AU us.length cU, .int .i64 1, .slice CB cn cn] 45)
  generalize w3.alloc _ = w4 at *
  rintro e w5 ⟨U, un, uc, CB2, cn2, rfl, hb5⟩
  have hA5 := (hb5.block w3.heap.size (by omega)).trans hA4
  have hP5 := (hb5.block w1.heap.size (by omega)).trans ((hb4.block w1.heap.size hzP3).trans hP3)
  have hb35 := bthen hb4 hb5
  have hb35' := hb35
  have hB5 := bthen hB3 hb35
  have hu5 := hu3.below hb35
  have hz35 := hb35.size
  have hz5 : w3.heap.size < w5.heap.size := (Array.getElem?_eq_some_iff.1 hA5).1
  have c5 := blk_cell hP5
  have hz15 : w1.heap.size < w5.heap.size := by omega
  clear hb4 hb5 hA4 hP3 hs4
  go_wp2_with (go_at_call 25; refine (hof _).mono ?_; refine stopHere ?_)
  unfold Stopped
  have hs9 := alloc4_size w5 (.cells #[.slice U un uc, .int .i64 0, .slice CB2 cn2 cn2] 45) (.cells #[.string ⟨#[]⟩, .int .i64 1, .int .i64 1, .int .i64 0, .int .i64 0, .int .i64 1, .slice (some ⟨w5.heap.size + 1 + 1 + 1, 0, none⟩) 1 1] 26) (.cells #[.int .i64 7] 3) (.cells #[.string ⟨#[]⟩, .int .i64 6, .int .i64 0, .bool true, .slice none 0 0, .slice (some ⟨w5.heap.size + 1 + 1, 0, none⟩) 1 1] 75)
  obtain ⟨n0, n1, n2, n3, hb9⟩ := alloc4_blk w5 (.cells #[.slice U un uc, .int .i64 0, .slice CB2 cn2 cn2] 45) (.cells #[.string ⟨#[]⟩, .int .i64 1, .int .i64 1, .int .i64 0, .int .i64 0, .int .i64 1, .slice (some ⟨w5.heap.size + 1 + 1 + 1, 0, none⟩) 1 1] 26) (.cells #[.int .i64 7] 3) (.cells #[.string ⟨#[]⟩, .int .i64 6, .int .i64 0, .bool true, .slice none 0 0, .slice (some ⟨w5.heap.size + 1 + 1, 0, none⟩) 1 1] 75)
  generalize (((w5.alloc _).alloc _).alloc _).alloc _ = w9 at *
  rintro e w10 ⟨⟨v, rfl⟩, hb10⟩
  have hb510 := bthen hb9 hb10
  have m0 := (hb10.block _ (by omega)).trans n0
  have m1 := (hb10.block _ (by omega)).trans n1
  have m2 := (hb10.block _ (by omega)).trans n2
  have m3 := (hb10.block _ (by omega)).trans n3
  have mA := (hb510.block w3.heap.size hz5).trans hA5
  have mP := (hb510.block w1.heap.size hz15).trans hP5
  have hB10 := bthen hB5 hb510
  have hu10 := hu5.below hb510
  have hz10 : w5.heap.size + 1 + 1 + 1 < w10.heap.size := (Array.getElem?_eq_some_iff.1 m3).1
  have h1_10 : Below w1.heap.size w1 w10 := h1_3.trans ((bthen hb35' hb510).mono h1_3.size)
  have hq10 := hq1.below h1_10
  have hl10 := hl1.below h1_10
  clear n0 n1 n2 n3 hb9 hb10 hA5 hP5 hB5 hu5 c5 hs9
  have cP10 := blk_cell mP
  have hz110 : w1.heap.size < w10.heap.size := (Array.getElem?_eq_some_iff.1 mP).1
  have hnw := fun W (h : Below w10.heap.size w10 W) => degree_Network_good W sampP sampL A2 A1 2 2 (hl10.below h) (hq10.below h) (by simp [sampL]) samp_netE
  have hn6 : (2 + (sampL.length : Int) + sampP.reqs.length) = 6 := by rfl
  simp only [hn6] at hnw
  clear hn6
  go_wp2_with (go_at_call 18; refine stopHere ?_)
  unfold Stopped
  refine (hnw _ (below1 _ _)).mono ?_
  rintro e w12 ⟨NV, rfl, hown, hb12⟩
  obtain ⟨NA, nc, rfl, hncl, hnrd⟩ := hown.rd edge_len
  have hnl : (netL sampP sampL).length = 8 := by rw [samp_net]; rfl
  rw [hnl] at *
  have hb1012 : Below w10.heap.size w10 w12 := bthen (below1 _ _) hb12
  have p0 := (hb1012.block _ (by omega)).trans m0
  have p1 := (hb1012.block _ (by omega)).trans m1
  have p2 := (hb1012.block _ (by omega)).trans m2
  have p3 := (hb1012.block _ (by omega)).trans m3
  have pA := (hb1012.block w3.heap.size (by omega)).trans mA
  have pP := (hb1012.block w1.heap.size (by omega)).trans mP
  have hB12 := bthen hB10 hb1012
  have hu12 := hu10.below hb1012
  have hq12 := hq10.below hb1012
  have hl12 := hl10.below hb1012
  clear m0 m1 m2 m3 mA mP hB10 hu10 hq10 hl10 cP10 hnw hown hnrd hb12 hb1012 h1_10 hb510 hb35 hb35' h1_3 hB3 hbP hu3 hq1 hl1 hb1 hsm hof
  have cP12 := blk_cell pP
  have cA12 := blk_cell pA
  have hzP12 : w1.heap.size < w12.heap.size := (Array.getElem?_eq_some_iff.1 pP).1
  have hck0 := fun W => degree_Check_c W ⟨⟨#[]⟩, 0, 0, 0, 0, 0, []⟩ none 0 (Rd.nil _ _ _)
  have hck1 := fun W (h : Below w12.heap.size w12 W) => degree_Check_c W sampP A1 2 (hq12.below h)
  have e0 : prgE ⟨⟨#[]⟩, 0, 0, 0, 0, 0, []⟩ = 190 := by decide
  have e1 : prgE sampP = 0 := by decide
  rw [e0] at hck0
  rw [e1] at hck1
  clear e0 e1
  go_wp2_with (go_at_call 13; refine (hck0 _).mono ?_; refine stopHere ?_)
  unfold Stopped
  rintro e w13 ⟨rfl, hb13⟩
  have cP13 := blk_cell ((hb13.block w1.heap.size hzP12).trans pP)
  go_wp2_with (go_at_call 13; refine (hck1 _ (by assumption)).mono ?_; refine stopHere ?_)
  unfold Stopped
  rintro e w14 ⟨rfl, hb14⟩
  have hb1214 := bthen hb13 hb14
  have z12 := hb1214.size
  have hz3 : w3.heap.size < w12.heap.size := (Array.getElem?_eq_some_iff.1 pA).1
  have hz5' : w5.heap.size + 1 + 1 + 1 < w12.heap.size := (Array.getElem?_eq_some_iff.1 p3).1
  have hB14 := bthen hB12 hb1214
  have hu14 := hu12.below hb1214
  have hq14 := hq12.below hb1214
  have hl14 := hl12.below hb1214
  have q0 := (hb1214.block _ (by omega)).trans p0
  have q1 := (hb1214.block _ (by omega)).trans p1
  have q2 := (hb1214.block _ (by omega)).trans p2
  have q3 := (hb1214.block _ (by omega)).trans p3
  have qA := (hb1214.block _ (by omega)).trans pA
  have qP := (hb1214.block _ (by omega)).trans pP
  have hrH : Rd kReq w14 (some ⟨w5.heap.size + 1 + 1 + 1, 0, none⟩) homeQ := rd_home q3 q2
  obtain ⟨x0, bl, ol, hx0, rfl, hbl, g0, g1, g2, g3, g4⟩ := kAtt_get hl14 (k := 0) (by simp [sampL])
  obtain rfl : x0 = ⟨7, 0, 5, 0, 6⟩ := by have := hx0.out; simp [sampL] at this; exact this.symm
  have hF : ∀ w', Below w14.heap.size w14 w' → (∀ j : Nat, w'.cell? ⟨w1.heap.size, j, none⟩ = #[Value.string ⟨#[]⟩, .int .i64 1, .int .i64 1, .int .i64 0, .int .i64 0, .int .i64 1, .slice A1 2 2][j]?) ∧ (∀ j : Nat, w'.cell? ⟨w3.heap.size, j, none⟩ = #[Value.slice AU us.length cU, .int .i64 1, .slice CB cn cn][j]?) ∧ (∀ j : Nat, w'.cell? ⟨w5.heap.size, j, none⟩ = #[Value.slice U un uc, .int .i64 0, .slice CB2 cn2 cn2][j]?) ∧
      (∀ j : Nat, w'.cell? ⟨w5.heap.size + 1, j, none⟩ = #[Value.string ⟨#[]⟩, .int .i64 1, .int .i64 1, .int .i64 0, .int .i64 0, .int .i64 1, .slice (some ⟨w5.heap.size + 1 + 1 + 1, 0, none⟩) 1 1][j]?) ∧ w'.cell? ⟨bl, ol, none⟩ = some (.int .i64 7) ∧ w'.cell? ⟨bl, ol + 1, none⟩ = some (.int .i64 0) ∧ w'.cell? ⟨bl, ol + 2, none⟩ = some (.int .i64 5) ∧ w'.cell? ⟨bl, ol + 3, none⟩ = some (.int .i64 0) ∧ w'.cell? ⟨bl, ol + 4, none⟩ = some (.int .i64 6) := fun w' h =>
    ⟨blk_cell ((h.block _ (by omega)).trans qP), blk_cell ((h.block _ (by omega)).trans qA), blk_cell ((h.block _ (by omega)).trans q0), blk_cell ((h.block _ (by omega)).trans q1), (h.cell (p := ⟨bl, ol, none⟩) hbl).trans (by simpa using g0), (h.cell (p := ⟨bl, ol + 1, none⟩) hbl).trans (by simpa using g1), (h.cell (p := ⟨bl, ol + 2, none⟩) hbl).trans (by simpa using g2), (h.cell (p := ⟨bl, ol + 3, none⟩) hbl).trans (by simpa using g3), (h.cell (p := ⟨bl, ol + 4, none⟩) hbl).trans (by simpa using g4)⟩
  have hAs := fun W (h : Below w14.heap.size w14 W) => ref19_Assignment_true W sampP sampL us A1 (some ⟨bl, ol, none⟩) AU 2 2 cU (hq14.below h) (hl14.below h) (hu14.below h) (by simp [sampP, sampQ]) (by simp [sampL]) (by omega) (by simp [sampP, sampQ]) (by simp [sampL]) (by simp [sampP]) hasg
  have huc := asgB_c hasg (by simp [sampL])
  have hAd := fun W (h : Below w14.heap.size w14 W) => ref19_Assigned_c W us AU cU (hu14.below h) (fun u hu => by have := huc u hu; omega) hun
  rw [h9] at hAd
  have hE1 := fun W (h : Below w14.heap.size w14 W) => Eligible_c W homeP ⟨7, 0, 1, 1, 0⟩ _ 1 (hrH.below h) (by simp [homeP, homeQ])
  have hE2 := fun W (h : Below w14.heap.size w14 W) => Eligible_c W homeP ⟨7, 0, 5, 0, 6⟩ _ 1 (hrH.below h) (by simp [homeP, homeQ])
  have hE3 := fun W (h : Below w14.heap.size w14 W) => Eligible_c W sampP ⟨9, 0, 9, 0, 0⟩ A1 2 (hq14.below h) (by simp [sampP, sampQ])
  have el1 : eligL homeP.reqs ⟨7, 0, 1, 1, 0⟩ = [] := by decide
  have el2 : eligL homeP.reqs ⟨7, 0, 5, 0, 6⟩ = [0] := by decide
  have el3 : eligL sampP.reqs ⟨9, 0, 9, 0, 0⟩ = [] := by decide
  rw [el1] at hE1
  rw [el2] at hE2
  rw [el3] at hE3
  clear el1 el2 el3
  go_wp2
  have hS0 : Below w14.heap.size w14 w14.drew := (Below.refl _ _).drew
  refine wp_region_G 57 (fun w' => Below w14.heap.size w14 w') (by kernel_rfl) (by kernel_rfl) (by intro d v c a w h; cases d <;> exact h) hS0 ?_
  refine wpG_yield (v := ?_) (i := 0) rfl (by kernel_rfl) (by rfl) ?hy ?_
  case hy => (rintro w' hS'; obtain ⟨f1, f2, f3, f4, f5, f6, f7, f8, f9⟩ := hF w' hS'; simp only [List.getElem_toArray, List.getElem_cons_succ, List.getElem_cons_zero]; go_simp; try with_reducible rfl)
  simp only [List.getElem_toArray, List.getElem_cons_succ, List.getElem_cons_zero, Act.put, List.setIfInBounds_toArray, List.set_cons_zero, List.set_cons_succ]
  refine wpG_yield (v := ?_) (i := 1) rfl (by kernel_rfl) (by rfl) ?hy ?_
  case hy => (rintro w' hS'; obtain ⟨f1, f2, f3, f4, f5, f6, f7, f8, f9⟩ := hF w' hS'; simp only [List.getElem_toArray, List.getElem_cons_succ, List.getElem_cons_zero]; go_simp; try with_reducible rfl)
  simp only [List.getElem_toArray, List.getElem_cons_succ, List.getElem_cons_zero, Act.put, List.setIfInBounds_toArray, List.set_cons_zero, List.set_cons_succ]
  refine wpG_yield (v := ?_) (i := 2) rfl (by kernel_rfl) (by rfl) ?hy ?_
  case hy => (rintro w' hS'; obtain ⟨f1, f2, f3, f4, f5, f6, f7, f8, f9⟩ := hF w' hS'; simp only [List.getElem_toArray, List.getElem_cons_succ, List.getElem_cons_zero]; go_simp; try with_reducible rfl)
  simp only [List.getElem_toArray, List.getElem_cons_succ, List.getElem_cons_zero, Act.put, List.setIfInBounds_toArray, List.set_cons_zero, List.set_cons_succ]
  refine wpG_yield (v := ?_) (i := 3) rfl (by kernel_rfl) (by rfl) ?hy ?_
  case hy => (rintro w' hS'; obtain ⟨f1, f2, f3, f4, f5, f6, f7, f8, f9⟩ := hF w' hS'; simp only [List.getElem_toArray, List.getElem_cons_succ, List.getElem_cons_zero]; go_simp; try with_reducible rfl)
  simp only [List.getElem_toArray, List.getElem_cons_succ, List.getElem_cons_zero, Act.put, List.setIfInBounds_toArray, List.set_cons_zero, List.set_cons_succ]
  refine wpG_yield (v := ?_) (i := 4) rfl (by kernel_rfl) (by rfl) ?hy ?_
  case hy => (rintro w' hS'; obtain ⟨f1, f2, f3, f4, f5, f6, f7, f8, f9⟩ := hF w' hS'; simp only [List.getElem_toArray, List.getElem_cons_succ, List.getElem_cons_zero]; go_simp; try with_reducible rfl)
  simp only [List.getElem_toArray, List.getElem_cons_succ, List.getElem_cons_zero, Act.put, List.setIfInBounds_toArray, List.set_cons_zero, List.set_cons_succ]
  refine wpG_yield (v := ?_) (i := 5) rfl (by kernel_rfl) (by rfl) ?hy ?_
  case hy => (rintro w' hS'; obtain ⟨f1, f2, f3, f4, f5, f6, f7, f8, f9⟩ := hF w' hS'; simp only [List.getElem_toArray, List.getElem_cons_succ, List.getElem_cons_zero]; go_simp; try with_reducible rfl)
  simp only [List.getElem_toArray, List.getElem_cons_succ, List.getElem_cons_zero, Act.put, List.setIfInBounds_toArray, List.set_cons_zero, List.set_cons_succ]
  refine wpG_yield (v := ?_) (i := 6) rfl (by kernel_rfl) (by rfl) ?hy ?_
  case hy => (rintro w' hS'; obtain ⟨f1, f2, f3, f4, f5, f6, f7, f8, f9⟩ := hF w' hS'; simp only [List.getElem_toArray, List.getElem_cons_succ, List.getElem_cons_zero]; go_simp; try with_reducible rfl)
  simp only [List.getElem_toArray, List.getElem_cons_succ, List.getElem_cons_zero, Act.put, List.setIfInBounds_toArray, List.set_cons_zero, List.set_cons_succ]
  refine wpG_yield (v := ?_) (i := 7) rfl (by kernel_rfl) (by rfl) ?hy ?_
  case hy => (rintro w' hS'; obtain ⟨f1, f2, f3, f4, f5, f6, f7, f8, f9⟩ := hF w' hS'; simp only [List.getElem_toArray, List.getElem_cons_succ, List.getElem_cons_zero]; go_simp; try with_reducible rfl)
  simp only [List.getElem_toArray, List.getElem_cons_succ, List.getElem_cons_zero, Act.put, List.setIfInBounds_toArray, List.set_cons_zero, List.set_cons_succ]
  refine wpG_call (i := 8) rfl (by kernel_rfl) (by rfl) ?hr ((hAs _ hS0).mono ?_)
  case hr => (simp only [List.getElem_toArray, List.getElem_cons_succ, List.getElem_cons_zero]; go_simp; try (first | rfl | simp [sampP, sampL, sampQ, homeP, homeQ] | exact ⟨⟨rfl, rfl, rfl, rfl, rfl, rfl, rfl⟩, rfl⟩))
  rintro e wa ⟨rfl, hba⟩
  refine ⟨_, rfl, bthen hS0 hba, ?_⟩
  have hSa := bthen hS0 hba
  simp only [List.getElem_toArray, List.getElem_cons_succ, List.getElem_cons_zero, Act.put, List.setIfInBounds_toArray, List.set_cons_zero, List.set_cons_succ]
  refine wpG_yield (v := ?_) (i := 9) rfl (by kernel_rfl) (by rfl) ?hy ?_
  case hy => (rintro w' hS'; obtain ⟨f1, f2, f3, f4, f5, f6, f7, f8, f9⟩ := hF w' hS'; simp only [List.getElem_toArray, List.getElem_cons_succ, List.getElem_cons_zero]; go_simp; try with_reducible rfl)
  simp only [List.getElem_toArray, List.getElem_cons_succ, List.getElem_cons_zero, Act.put, List.setIfInBounds_toArray, List.set_cons_zero, List.set_cons_succ]
  refine wpG_yield (v := ?_) (i := 10) rfl (by kernel_rfl) (by rfl) ?hy ?_
  case hy => (rintro w' hS'; obtain ⟨f1, f2, f3, f4, f5, f6, f7, f8, f9⟩ := hF w' hS'; simp only [List.getElem_toArray, List.getElem_cons_succ, List.getElem_cons_zero]; go_simp; try with_reducible rfl)
  simp only [List.getElem_toArray, List.getElem_cons_succ, List.getElem_cons_zero, Act.put, List.setIfInBounds_toArray, List.set_cons_zero, List.set_cons_succ]
  refine wpG_yield (v := ?_) (i := 11) rfl (by kernel_rfl) (by rfl) ?hy ?_
  case hy => (rintro w' hS'; obtain ⟨f1, f2, f3, f4, f5, f6, f7, f8, f9⟩ := hF w' hS'; simp only [List.getElem_toArray, List.getElem_cons_succ, List.getElem_cons_zero]; go_simp; try with_reducible rfl)
  simp only [List.getElem_toArray, List.getElem_cons_succ, List.getElem_cons_zero, Act.put, List.setIfInBounds_toArray, List.set_cons_zero, List.set_cons_succ]
  refine wpG_yield (v := ?_) (i := 12) rfl (by kernel_rfl) (by rfl) ?hy ?_
  case hy => (rintro w' hS'; obtain ⟨f1, f2, f3, f4, f5, f6, f7, f8, f9⟩ := hF w' hS'; simp only [List.getElem_toArray, List.getElem_cons_succ, List.getElem_cons_zero]; go_simp; try with_reducible rfl)
  simp only [List.getElem_toArray, List.getElem_cons_succ, List.getElem_cons_zero, Act.put, List.setIfInBounds_toArray, List.set_cons_zero, List.set_cons_succ]
  refine wpG_call (i := 13) rfl (by kernel_rfl) (by rfl) ?hr ((hAd _ hSa).mono ?_)
  case hr => (simp only [List.getElem_toArray, List.getElem_cons_succ, List.getElem_cons_zero]; go_simp; try (first | rfl | simp [sampP, sampL, sampQ, homeP, homeQ] | exact ⟨⟨rfl, rfl, rfl, rfl, rfl, rfl, rfl⟩, rfl⟩))
  rintro e wb ⟨rfl, hba⟩
  refine ⟨_, rfl, bthen hSa hba, ?_⟩
  have hSb := bthen hSa hba
  simp only [List.getElem_toArray, List.getElem_cons_succ, List.getElem_cons_zero, Act.put, List.setIfInBounds_toArray, List.set_cons_zero, List.set_cons_succ]
  refine wpG_yield (v := ?_) (i := 14) rfl (by kernel_rfl) (by rfl) ?hy ?_
  case hy => (rintro w' hS'; obtain ⟨f1, f2, f3, f4, f5, f6, f7, f8, f9⟩ := hF w' hS'; simp only [List.getElem_toArray, List.getElem_cons_succ, List.getElem_cons_zero]; go_simp; try with_reducible rfl)
  simp only [List.getElem_toArray, List.getElem_cons_succ, List.getElem_cons_zero, Act.put, List.setIfInBounds_toArray, List.set_cons_zero, List.set_cons_succ]
  refine wpG_yield (v := ?_) (i := 15) rfl (by kernel_rfl) (by rfl) ?hy ?_
  case hy => (rintro w' hS'; obtain ⟨f1, f2, f3, f4, f5, f6, f7, f8, f9⟩ := hF w' hS'; simp only [List.getElem_toArray, List.getElem_cons_succ, List.getElem_cons_zero]; go_simp; try with_reducible rfl)
  simp only [List.getElem_toArray, List.getElem_cons_succ, List.getElem_cons_zero, Act.put, List.setIfInBounds_toArray, List.set_cons_zero, List.set_cons_succ]
  refine wpG_yield (v := ?_) (i := 16) rfl (by kernel_rfl) (by rfl) ?hy ?_
  case hy => (rintro w' hS'; obtain ⟨f1, f2, f3, f4, f5, f6, f7, f8, f9⟩ := hF w' hS'; simp only [List.getElem_toArray, List.getElem_cons_succ, List.getElem_cons_zero]; go_simp; try with_reducible rfl)
  simp only [List.getElem_toArray, List.getElem_cons_succ, List.getElem_cons_zero, Act.put, List.setIfInBounds_toArray, List.set_cons_zero, List.set_cons_succ]
  refine wpG_yield (v := ?_) (i := 17) rfl (by kernel_rfl) (by rfl) ?hy ?_
  case hy => (rintro w' hS'; obtain ⟨f1, f2, f3, f4, f5, f6, f7, f8, f9⟩ := hF w' hS'; simp only [List.getElem_toArray, List.getElem_cons_succ, List.getElem_cons_zero]; go_simp; try with_reducible rfl)
  simp only [List.getElem_toArray, List.getElem_cons_succ, List.getElem_cons_zero, Act.put, List.setIfInBounds_toArray, List.set_cons_zero, List.set_cons_succ]
  refine wpG_yield (v := ?_) (i := 18) rfl (by kernel_rfl) (by rfl) ?hy ?_
  case hy => (rintro w' hS'; obtain ⟨f1, f2, f3, f4, f5, f6, f7, f8, f9⟩ := hF w' hS'; simp only [List.getElem_toArray, List.getElem_cons_succ, List.getElem_cons_zero]; go_simp; try with_reducible rfl)
  simp only [List.getElem_toArray, List.getElem_cons_succ, List.getElem_cons_zero, Act.put, List.setIfInBounds_toArray, List.set_cons_zero, List.set_cons_succ]
  refine wpG_yield (v := ?_) (i := 19) rfl (by kernel_rfl) (by rfl) ?hy ?_
  case hy => (rintro w' hS'; obtain ⟨f1, f2, f3, f4, f5, f6, f7, f8, f9⟩ := hF w' hS'; simp only [List.getElem_toArray, List.getElem_cons_succ, List.getElem_cons_zero]; go_simp; try with_reducible rfl)
  simp only [List.getElem_toArray, List.getElem_cons_succ, List.getElem_cons_zero, Act.put, List.setIfInBounds_toArray, List.set_cons_zero, List.set_cons_succ]
  refine wpG_yield (v := ?_) (i := 20) rfl (by kernel_rfl) (by rfl) ?hy ?_
  case hy => (rintro w' hS'; obtain ⟨f1, f2, f3, f4, f5, f6, f7, f8, f9⟩ := hF w' hS'; simp only [List.getElem_toArray, List.getElem_cons_succ, List.getElem_cons_zero]; go_simp; try with_reducible rfl)
  simp only [List.getElem_toArray, List.getElem_cons_succ, List.getElem_cons_zero, Act.put, List.setIfInBounds_toArray, List.set_cons_zero, List.set_cons_succ]
  refine wpG_yield (v := ?_) (i := 21) rfl (by kernel_rfl) (by rfl) ?hy ?_
  case hy => (rintro w' hS'; obtain ⟨f1, f2, f3, f4, f5, f6, f7, f8, f9⟩ := hF w' hS'; simp only [List.getElem_toArray, List.getElem_cons_succ, List.getElem_cons_zero]; go_simp; try with_reducible rfl)
  simp only [List.getElem_toArray, List.getElem_cons_succ, List.getElem_cons_zero, Act.put, List.setIfInBounds_toArray, List.set_cons_zero, List.set_cons_succ]
  refine wpG_yield (v := ?_) (i := 22) rfl (by kernel_rfl) (by rfl) ?hy ?_
  case hy => (rintro w' hS'; obtain ⟨f1, f2, f3, f4, f5, f6, f7, f8, f9⟩ := hF w' hS'; simp only [List.getElem_toArray, List.getElem_cons_succ, List.getElem_cons_zero]; go_simp; try with_reducible rfl)
  simp only [List.getElem_toArray, List.getElem_cons_succ, List.getElem_cons_zero, Act.put, List.setIfInBounds_toArray, List.set_cons_zero, List.set_cons_succ]
  refine wpG_yield (v := ?_) (i := 23) rfl (by kernel_rfl) (by rfl) ?hy ?_
  case hy => (rintro w' hS'; obtain ⟨f1, f2, f3, f4, f5, f6, f7, f8, f9⟩ := hF w' hS'; simp only [List.getElem_toArray, List.getElem_cons_succ, List.getElem_cons_zero]; go_simp; try with_reducible rfl)
  simp only [List.getElem_toArray, List.getElem_cons_succ, List.getElem_cons_zero, Act.put, List.setIfInBounds_toArray, List.set_cons_zero, List.set_cons_succ]
  refine wpG_yield (v := ?_) (i := 24) rfl (by kernel_rfl) (by rfl) ?hy ?_
  case hy => (rintro w' hS'; obtain ⟨f1, f2, f3, f4, f5, f6, f7, f8, f9⟩ := hF w' hS'; simp only [List.getElem_toArray, List.getElem_cons_succ, List.getElem_cons_zero]; go_simp; try with_reducible rfl)
  simp only [List.getElem_toArray, List.getElem_cons_succ, List.getElem_cons_zero, Act.put, List.setIfInBounds_toArray, List.set_cons_zero, List.set_cons_succ]
  refine wpG_yield (v := ?_) (i := 25) rfl (by kernel_rfl) (by rfl) ?hy ?_
  case hy => (rintro w' hS'; obtain ⟨f1, f2, f3, f4, f5, f6, f7, f8, f9⟩ := hF w' hS'; simp only [List.getElem_toArray, List.getElem_cons_succ, List.getElem_cons_zero]; go_simp; try with_reducible rfl)
  simp only [List.getElem_toArray, List.getElem_cons_succ, List.getElem_cons_zero, Act.put, List.setIfInBounds_toArray, List.set_cons_zero, List.set_cons_succ]
  refine wpG_yield (v := ?_) (i := 26) rfl (by kernel_rfl) (by rfl) ?hy ?_
  case hy => (rintro w' hS'; obtain ⟨f1, f2, f3, f4, f5, f6, f7, f8, f9⟩ := hF w' hS'; simp only [List.getElem_toArray, List.getElem_cons_succ, List.getElem_cons_zero]; go_simp; try with_reducible rfl)
  simp only [List.getElem_toArray, List.getElem_cons_succ, List.getElem_cons_zero, Act.put, List.setIfInBounds_toArray, List.set_cons_zero, List.set_cons_succ]
  refine wpG_yield (v := ?_) (i := 27) rfl (by kernel_rfl) (by rfl) ?hy ?_
  case hy => (rintro w' hS'; obtain ⟨f1, f2, f3, f4, f5, f6, f7, f8, f9⟩ := hF w' hS'; simp only [List.getElem_toArray, List.getElem_cons_succ, List.getElem_cons_zero]; go_simp; try with_reducible rfl)
  simp only [List.getElem_toArray, List.getElem_cons_succ, List.getElem_cons_zero, Act.put, List.setIfInBounds_toArray, List.set_cons_zero, List.set_cons_succ]
  refine wpG_yield (v := ?_) (i := 28) rfl (by kernel_rfl) (by rfl) ?hy ?_
  case hy => (rintro w' hS'; obtain ⟨f1, f2, f3, f4, f5, f6, f7, f8, f9⟩ := hF w' hS'; simp only [List.getElem_toArray, List.getElem_cons_succ, List.getElem_cons_zero]; go_simp; try with_reducible rfl)
  simp only [List.getElem_toArray, List.getElem_cons_succ, List.getElem_cons_zero, Act.put, List.setIfInBounds_toArray, List.set_cons_zero, List.set_cons_succ]
  refine wpG_yield (v := ?_) (i := 29) rfl (by kernel_rfl) (by rfl) ?hy ?_
  case hy => (rintro w' hS'; obtain ⟨f1, f2, f3, f4, f5, f6, f7, f8, f9⟩ := hF w' hS'; simp only [List.getElem_toArray, List.getElem_cons_succ, List.getElem_cons_zero]; go_simp; try with_reducible rfl)
  simp only [List.getElem_toArray, List.getElem_cons_succ, List.getElem_cons_zero, Act.put, List.setIfInBounds_toArray, List.set_cons_zero, List.set_cons_succ]
  refine wpG_yield (v := ?_) (i := 30) rfl (by kernel_rfl) (by rfl) ?hy ?_
  case hy => (rintro w' hS'; obtain ⟨f1, f2, f3, f4, f5, f6, f7, f8, f9⟩ := hF w' hS'; simp only [List.getElem_toArray, List.getElem_cons_succ, List.getElem_cons_zero]; go_simp; try with_reducible rfl)
  simp only [List.getElem_toArray, List.getElem_cons_succ, List.getElem_cons_zero, Act.put, List.setIfInBounds_toArray, List.set_cons_zero, List.set_cons_succ]
  refine wpG_yield (v := ?_) (i := 31) rfl (by kernel_rfl) (by rfl) ?hy ?_
  case hy => (rintro w' hS'; obtain ⟨f1, f2, f3, f4, f5, f6, f7, f8, f9⟩ := hF w' hS'; simp only [List.getElem_toArray, List.getElem_cons_succ, List.getElem_cons_zero]; go_simp; try with_reducible rfl)
  simp only [List.getElem_toArray, List.getElem_cons_succ, List.getElem_cons_zero, Act.put, List.setIfInBounds_toArray, List.set_cons_zero, List.set_cons_succ]
  refine wpG_yield (v := ?_) (i := 32) rfl (by kernel_rfl) (by rfl) ?hy ?_
  case hy => (rintro w' hS'; obtain ⟨f1, f2, f3, f4, f5, f6, f7, f8, f9⟩ := hF w' hS'; simp only [List.getElem_toArray, List.getElem_cons_succ, List.getElem_cons_zero]; go_simp; try with_reducible rfl)
  simp only [List.getElem_toArray, List.getElem_cons_succ, List.getElem_cons_zero, Act.put, List.setIfInBounds_toArray, List.set_cons_zero, List.set_cons_succ]
  refine wpG_yield (v := ?_) (i := 33) rfl (by kernel_rfl) (by rfl) ?hy ?_
  case hy => (rintro w' hS'; obtain ⟨f1, f2, f3, f4, f5, f6, f7, f8, f9⟩ := hF w' hS'; simp only [List.getElem_toArray, List.getElem_cons_succ, List.getElem_cons_zero]; go_simp; try with_reducible rfl)
  simp only [List.getElem_toArray, List.getElem_cons_succ, List.getElem_cons_zero, Act.put, List.setIfInBounds_toArray, List.set_cons_zero, List.set_cons_succ]
  refine wpG_yield (v := ?_) (i := 34) rfl (by kernel_rfl) (by rfl) ?hy ?_
  case hy => (rintro w' hS'; obtain ⟨f1, f2, f3, f4, f5, f6, f7, f8, f9⟩ := hF w' hS'; simp only [List.getElem_toArray, List.getElem_cons_succ, List.getElem_cons_zero]; go_simp; try with_reducible rfl)
  simp only [List.getElem_toArray, List.getElem_cons_succ, List.getElem_cons_zero, Act.put, List.setIfInBounds_toArray, List.set_cons_zero, List.set_cons_succ]
  refine wpG_yield (v := ?_) (i := 35) rfl (by kernel_rfl) (by rfl) ?hy ?_
  case hy => (rintro w' hS'; obtain ⟨f1, f2, f3, f4, f5, f6, f7, f8, f9⟩ := hF w' hS'; simp only [List.getElem_toArray, List.getElem_cons_succ, List.getElem_cons_zero]; go_simp; try with_reducible rfl)
  simp only [List.getElem_toArray, List.getElem_cons_succ, List.getElem_cons_zero, Act.put, List.setIfInBounds_toArray, List.set_cons_zero, List.set_cons_succ]
  refine wpG_yield (v := ?_) (i := 36) rfl (by kernel_rfl) (by rfl) ?hy ?_
  case hy => (rintro w' hS'; obtain ⟨f1, f2, f3, f4, f5, f6, f7, f8, f9⟩ := hF w' hS'; simp only [List.getElem_toArray, List.getElem_cons_succ, List.getElem_cons_zero]; go_simp; try with_reducible rfl)
  simp only [List.getElem_toArray, List.getElem_cons_succ, List.getElem_cons_zero, Act.put, List.setIfInBounds_toArray, List.set_cons_zero, List.set_cons_succ]
  refine wpG_call (i := 37) rfl (by kernel_rfl) (by rfl) ?hr ((hE1 _ hSb).mono ?_)
  case hr => (simp only [List.getElem_toArray, List.getElem_cons_succ, List.getElem_cons_zero]; go_simp; try (first | rfl | simp [sampP, sampL, sampQ, homeP, homeQ] | exact ⟨⟨rfl, rfl, rfl, rfl, rfl, rfl, rfl⟩, rfl⟩))
  rintro e wc ⟨vc, rfl, ho, hba⟩
  obtain ⟨Ac, cc, rfl, _, _⟩ := ho.rd encI_len
  refine ⟨_, rfl, bthen hSb hba, ?_⟩
  have hSc := bthen hSb hba
  simp only [List.getElem_toArray, List.getElem_cons_succ, List.getElem_cons_zero, Act.put, List.setIfInBounds_toArray, List.set_cons_zero, List.set_cons_succ]
  refine wpG_yield (v := ?_) (i := 38) rfl (by kernel_rfl) (by rfl) ?hy ?_
  case hy => (rintro w' hS'; obtain ⟨f1, f2, f3, f4, f5, f6, f7, f8, f9⟩ := hF w' hS'; simp only [List.getElem_toArray, List.getElem_cons_succ, List.getElem_cons_zero]; go_simp; try with_reducible rfl)
  simp only [List.getElem_toArray, List.getElem_cons_succ, List.getElem_cons_zero, Act.put, List.setIfInBounds_toArray, List.set_cons_zero, List.set_cons_succ]
  refine wpG_yield (v := ?_) (i := 39) rfl (by kernel_rfl) (by rfl) ?hy ?_
  case hy => (rintro w' hS'; obtain ⟨f1, f2, f3, f4, f5, f6, f7, f8, f9⟩ := hF w' hS'; simp only [List.getElem_toArray, List.getElem_cons_succ, List.getElem_cons_zero]; go_simp; try with_reducible rfl)
  simp only [List.getElem_toArray, List.getElem_cons_succ, List.getElem_cons_zero, Act.put, List.setIfInBounds_toArray, List.set_cons_zero, List.set_cons_succ]
  refine wpG_yield (v := ?_) (i := 40) rfl (by kernel_rfl) (by rfl) ?hy ?_
  case hy => (rintro w' hS'; obtain ⟨f1, f2, f3, f4, f5, f6, f7, f8, f9⟩ := hF w' hS'; simp only [List.getElem_toArray, List.getElem_cons_succ, List.getElem_cons_zero]; go_simp; try with_reducible rfl)
  simp only [List.getElem_toArray, List.getElem_cons_succ, List.getElem_cons_zero, Act.put, List.setIfInBounds_toArray, List.set_cons_zero, List.set_cons_succ]
  refine wpG_yield (v := ?_) (i := 41) rfl (by kernel_rfl) (by rfl) ?hy ?_
  case hy => (rintro w' hS'; obtain ⟨f1, f2, f3, f4, f5, f6, f7, f8, f9⟩ := hF w' hS'; simp only [List.getElem_toArray, List.getElem_cons_succ, List.getElem_cons_zero]; go_simp; try with_reducible rfl)
  simp only [List.getElem_toArray, List.getElem_cons_succ, List.getElem_cons_zero, Act.put, List.setIfInBounds_toArray, List.set_cons_zero, List.set_cons_succ]
  refine wpG_yield (v := ?_) (i := 42) rfl (by kernel_rfl) (by rfl) ?hy ?_
  case hy => (rintro w' hS'; obtain ⟨f1, f2, f3, f4, f5, f6, f7, f8, f9⟩ := hF w' hS'; simp only [List.getElem_toArray, List.getElem_cons_succ, List.getElem_cons_zero]; go_simp; try with_reducible rfl)
  simp only [List.getElem_toArray, List.getElem_cons_succ, List.getElem_cons_zero, Act.put, List.setIfInBounds_toArray, List.set_cons_zero, List.set_cons_succ]
  refine wpG_yield (v := ?_) (i := 43) rfl (by kernel_rfl) (by rfl) ?hy ?_
  case hy => (rintro w' hS'; obtain ⟨f1, f2, f3, f4, f5, f6, f7, f8, f9⟩ := hF w' hS'; simp only [List.getElem_toArray, List.getElem_cons_succ, List.getElem_cons_zero]; go_simp; try with_reducible rfl)
  simp only [List.getElem_toArray, List.getElem_cons_succ, List.getElem_cons_zero, Act.put, List.setIfInBounds_toArray, List.set_cons_zero, List.set_cons_succ]
  refine wpG_yield (v := ?_) (i := 44) rfl (by kernel_rfl) (by rfl) ?hy ?_
  case hy => (rintro w' hS'; obtain ⟨f1, f2, f3, f4, f5, f6, f7, f8, f9⟩ := hF w' hS'; simp only [List.getElem_toArray, List.getElem_cons_succ, List.getElem_cons_zero]; go_simp; try with_reducible rfl)
  simp only [List.getElem_toArray, List.getElem_cons_succ, List.getElem_cons_zero, Act.put, List.setIfInBounds_toArray, List.set_cons_zero, List.set_cons_succ]
  refine wpG_yield (v := ?_) (i := 45) rfl (by kernel_rfl) (by rfl) ?hy ?_
  case hy => (rintro w' hS'; obtain ⟨f1, f2, f3, f4, f5, f6, f7, f8, f9⟩ := hF w' hS'; simp only [List.getElem_toArray, List.getElem_cons_succ, List.getElem_cons_zero]; go_simp; try with_reducible rfl)
  simp only [List.getElem_toArray, List.getElem_cons_succ, List.getElem_cons_zero, Act.put, List.setIfInBounds_toArray, List.set_cons_zero, List.set_cons_succ]
  refine wpG_call (i := 46) rfl (by kernel_rfl) (by rfl) ?hr ((hE2 _ hSc).mono ?_)
  case hr => (simp only [List.getElem_toArray, List.getElem_cons_succ, List.getElem_cons_zero]; go_simp; try (first | rfl | simp [sampP, sampL, sampQ, homeP, homeQ] | exact ⟨⟨rfl, rfl, rfl, rfl, rfl, rfl, rfl⟩, rfl⟩))
  rintro e wd ⟨vd, rfl, ho, hba⟩
  obtain ⟨Ad, cd, rfl, _, _⟩ := ho.rd encI_len
  refine ⟨_, rfl, bthen hSc hba, ?_⟩
  have hSd := bthen hSc hba
  simp only [List.getElem_toArray, List.getElem_cons_succ, List.getElem_cons_zero, Act.put, List.setIfInBounds_toArray, List.set_cons_zero, List.set_cons_succ]
  refine wpG_yield (v := ?_) (i := 47) rfl (by kernel_rfl) (by rfl) ?hy ?_
  case hy => (rintro w' hS'; obtain ⟨f1, f2, f3, f4, f5, f6, f7, f8, f9⟩ := hF w' hS'; simp only [List.getElem_toArray, List.getElem_cons_succ, List.getElem_cons_zero]; go_simp; try with_reducible rfl)
  simp only [List.getElem_toArray, List.getElem_cons_succ, List.getElem_cons_zero, Act.put, List.setIfInBounds_toArray, List.set_cons_zero, List.set_cons_succ]
  refine wpG_yield (v := ?_) (i := 48) rfl (by kernel_rfl) (by rfl) ?hy ?_
  case hy => (rintro w' hS'; obtain ⟨f1, f2, f3, f4, f5, f6, f7, f8, f9⟩ := hF w' hS'; simp only [List.getElem_toArray, List.getElem_cons_succ, List.getElem_cons_zero]; go_simp; try with_reducible rfl)
  simp only [List.getElem_toArray, List.getElem_cons_succ, List.getElem_cons_zero, Act.put, List.setIfInBounds_toArray, List.set_cons_zero, List.set_cons_succ]
  refine wpG_yield (v := ?_) (i := 49) rfl (by kernel_rfl) (by rfl) ?hy ?_
  case hy => (rintro w' hS'; obtain ⟨f1, f2, f3, f4, f5, f6, f7, f8, f9⟩ := hF w' hS'; simp only [List.getElem_toArray, List.getElem_cons_succ, List.getElem_cons_zero]; go_simp; try with_reducible rfl)
  simp only [List.getElem_toArray, List.getElem_cons_succ, List.getElem_cons_zero, Act.put, List.setIfInBounds_toArray, List.set_cons_zero, List.set_cons_succ]
  refine wpG_yield (v := ?_) (i := 50) rfl (by kernel_rfl) (by rfl) ?hy ?_
  case hy => (rintro w' hS'; obtain ⟨f1, f2, f3, f4, f5, f6, f7, f8, f9⟩ := hF w' hS'; simp only [List.getElem_toArray, List.getElem_cons_succ, List.getElem_cons_zero]; go_simp; try with_reducible rfl)
  simp only [List.getElem_toArray, List.getElem_cons_succ, List.getElem_cons_zero, Act.put, List.setIfInBounds_toArray, List.set_cons_zero, List.set_cons_succ]
  refine wpG_yield (v := ?_) (i := 51) rfl (by kernel_rfl) (by rfl) ?hy ?_
  case hy => (rintro w' hS'; obtain ⟨f1, f2, f3, f4, f5, f6, f7, f8, f9⟩ := hF w' hS'; simp only [List.getElem_toArray, List.getElem_cons_succ, List.getElem_cons_zero]; go_simp; try with_reducible rfl)
  simp only [List.getElem_toArray, List.getElem_cons_succ, List.getElem_cons_zero, Act.put, List.setIfInBounds_toArray, List.set_cons_zero, List.set_cons_succ]
  refine wpG_yield (v := ?_) (i := 52) rfl (by kernel_rfl) (by rfl) ?hy ?_
  case hy => (rintro w' hS'; obtain ⟨f1, f2, f3, f4, f5, f6, f7, f8, f9⟩ := hF w' hS'; simp only [List.getElem_toArray, List.getElem_cons_succ, List.getElem_cons_zero]; go_simp; try with_reducible rfl)
  simp only [List.getElem_toArray, List.getElem_cons_succ, List.getElem_cons_zero, Act.put, List.setIfInBounds_toArray, List.set_cons_zero, List.set_cons_succ]
  refine wpG_call (i := 53) rfl (by kernel_rfl) (by rfl) ?hr ((hE3 _ hSd).mono ?_)
  case hr => (simp only [List.getElem_toArray, List.getElem_cons_succ, List.getElem_cons_zero]; go_simp; try (first | rfl | simp [sampP, sampL, sampQ, homeP, homeQ] | exact ⟨⟨rfl, rfl, rfl, rfl, rfl, rfl, rfl⟩, rfl⟩))
  rintro e we ⟨ve, rfl, ho, hba⟩
  obtain ⟨Ae, ce, rfl, _, _⟩ := ho.rd encI_len
  refine ⟨_, rfl, bthen hSd hba, ?_⟩
  have hSe := bthen hSd hba
  simp only [List.getElem_toArray, List.getElem_cons_succ, List.getElem_cons_zero, Act.put, List.setIfInBounds_toArray, List.set_cons_zero, List.set_cons_succ]
  refine wpG_yield (v := ?_) (i := 54) rfl (by kernel_rfl) (by rfl) ?hy ?_
  case hy => (rintro w' hS'; obtain ⟨f1, f2, f3, f4, f5, f6, f7, f8, f9⟩ := hF w' hS'; simp only [List.getElem_toArray, List.getElem_cons_succ, List.getElem_cons_zero]; go_simp; try with_reducible rfl)
  simp only [List.getElem_toArray, List.getElem_cons_succ, List.getElem_cons_zero, Act.put, List.setIfInBounds_toArray, List.set_cons_zero, List.set_cons_succ]
  refine wpG_yield (v := ?_) (i := 55) rfl (by kernel_rfl) (by rfl) ?hy ?_
  case hy => (rintro w' hS'; obtain ⟨f1, f2, f3, f4, f5, f6, f7, f8, f9⟩ := hF w' hS'; simp only [List.getElem_toArray, List.getElem_cons_succ, List.getElem_cons_zero]; go_simp; try with_reducible rfl)
  simp only [List.getElem_toArray, List.getElem_cons_succ, List.getElem_cons_zero, Act.put, List.setIfInBounds_toArray, List.set_cons_zero, List.set_cons_succ]
  refine wpG_yield (v := ?_) (i := 56) rfl (by kernel_rfl) (by rfl) ?hy ?_
  case hy => (rintro w' hS'; obtain ⟨f1, f2, f3, f4, f5, f6, f7, f8, f9⟩ := hF w' hS'; simp only [List.getElem_toArray, List.getElem_cons_succ, List.getElem_cons_zero]; go_simp; try with_reducible rfl)
  simp only [List.getElem_toArray, List.getElem_cons_succ, List.getElem_cons_zero, Act.put, List.setIfInBounds_toArray, List.set_cons_zero, List.set_cons_succ]
  refine wpG_done (by kernel_rfl) ?_
  simp only [List.drop_succ_cons, List.drop_zero]
  go_wp2
  go_ret
  exact ⟨rfl, hB14.trans ((hSe).mono hB14.size)⟩
end Go.Proofs.YtaiibchadlaifaaGreatDoor

namespace Go.Proofs.YtaiibchadlaifaaGreatDoor

theorem capC_append {C : Int → Bool} : ∀ {l1 l2 : List Edge}, capC C (l1 ++ l2) = capC C l1 + capC C l2
  | [], l2 => by simp [capC]
  | e :: l1, l2 => by simp only [List.cons_append, capC]; rw [capC_append]; omega
theorem capC_in {C : Int → Bool} : ∀ {l : List Edge}, (∀ e, e ∈ l → C e.t = true) → capC C l = 0
  | [], _ => rfl
  | e :: l, h => by simp only [capC]; rw [capC_in (fun x hx => h x (by simp [hx])), h e (by simp)]; simp
theorem capC_R {m : Nat} {qs : List Req} : ∀ n, n ≤ qs.length → capC (fun v => decide (v ≠ ((1 + m + qs.length : Nat) : Int))) (upTo (edgeR m qs) n) = totalC (qs.take n)
  | 0, _ => rfl
  | n + 1, h => by
    obtain ⟨q, hq⟩ : ∃ q, qs[n]? = some q := ⟨_, List.getElem?_eq_getElem (by omega)⟩
    rw [upTo, capC_append, capC_R n (by omega), edgeR_at hq, take_snoc_get hq, totalC_snoc]
    have e1 : decide ((1 + m + n : Int) ≠ ((1 + m + qs.length : Nat) : Int)) = true := by simp; omega
    have e2 : decide ((1 + m + qs.length : Int) ≠ ((1 + m + qs.length : Nat) : Int)) = false := by simp
    simp only [capC, e1, e2]
    simp
/-- No flow counts more than the programme asks. -/
theorem value_le_total {p : Prg} {l : List Att} {F : List Int} (ok : okF (netL p l) F) (cons : conserve (2 + l.length + p.reqs.length) 0 (1 + l.length + p.reqs.length) (netL p l) F) : outF (netL p l) F 0 ≤ totalC p.reqs := by
  have h := weak (C := fun v => decide (v ≠ ((1 + l.length + p.reqs.length : Nat) : Int))) (netL_nodes p l) ok cons (by omega) (by omega) (by simp; omega) (by simp)
  have h1 : capC (fun v => decide (v ≠ ((1 + l.length + p.reqs.length : Nat) : Int))) (netL p l) = totalC p.reqs := by
    unfold netL
    rw [capC_append, capC_append, capC_R _ (Nat.le_refl _), List.take_length, capC_in, capC_in]
    · omega
    · intro e he
      obtain ⟨⟨i, hi, a⟩, k, h0, h1, b⟩ := mem_edgeP he
      simp; omega
    · intro e he
      obtain ⟨a, i, hi, b⟩ := mem_edgeA he
      simp; omega
  omega
end Go.Proofs.YtaiibchadlaifaaGreatDoor

namespace Go.Proofs.YtaiibchadlaifaaGreatDoor

theorem outF_map_add (g h : Edge → Int) (v : Int) : ∀ E : List Edge, outF E (E.map fun e => g e + h e) v = outF E (E.map g) v + outF E (E.map h) v
  | [] => rfl
  | e :: E => by
    simp only [List.map_cons, outF, outF_map_add g h v E]
    by_cases a : v = e.f <;> by_cases b : v = e.t <;> simp [a, b] <;> omega
theorem outF_map_zero (v : Int) : ∀ E : List Edge, outF E (E.map fun _ => (0 : Int)) v = 0
  | [] => rfl
  | e :: E => by
    simp only [List.map_cons, outF, outF_map_zero v E]
    by_cases a : v = e.f <;> by_cases b : v = e.t <;> simp [a, b]
def hopF (c v : Int) (e : Edge) : Int := (if v = e.f then c else 0) + -(if v = e.t then c else 0)
theorem outF_filter (P : Edge → Bool) (c v : Int) : ∀ E : List Edge, outF E (E.map fun e => if P e then c else 0) v = ((E.filter P).map (hopF c v)).sum
  | [] => rfl
  | e :: E => by
    simp only [List.map_cons, outF, outF_filter P c v E, List.filter_cons]
    cases h : P e
    · by_cases a : v = e.f <;> by_cases b : v = e.t <;> simp [a, b]
    · simp only [if_true, List.map_cons, List.sum_cons, hopF]

theorem upTo_filter {β : Type} (P : β → Bool) (f : Nat → List β) : ∀ n, (upTo f n).filter P = upTo (fun k => (f k).filter P) n
  | 0 => rfl
  | n + 1 => by simp only [upTo, List.filter_append, upTo_filter P f n]
theorem upTo_none {β : Type} {f : Nat → List β} : ∀ {n : Nat}, (∀ k, k < n → f k = []) → upTo f n = []
  | 0, _ => rfl
  | n + 1, h => by rw [upTo, upTo_none (fun k hk => h k (by omega)), h n (by omega)]; rfl
theorem upTo_single {β : Type} {f : Nat → List β} {a : Nat} : ∀ {n : Nat}, a < n → (∀ k, k < n → k ≠ a → f k = []) → upTo f n = f a
  | n + 1, h, hn => by
    by_cases e : a = n
    · subst e; rw [upTo, upTo_none (fun k hk => hn k (by omega) (by omega))]; rfl
    · rw [upTo, upTo_single (by omega) (fun k hk => hn k (by omega)), hn n (by omega) (by omega), List.append_nil]

/-- The edges that a use goes along. -/
def onU (m R : Nat) (u : Use) (e : Edge) : Bool := decide (e.f = 0 ∧ e.t = 1 + u.a) || decide (e.f = 1 + u.a ∧ e.t = 1 + m + u.r) || decide (e.f = 1 + m + u.r ∧ e.t = 1 + m + R)
/-- What all uses lay on an edge. -/
def layU (m R : Nat) : List Use → Edge → Int
  | [], _ => 0
  | u :: us, e => (if onU m R u e then u.c else 0) + layU m R us e

theorem onU_A {m R : Nat} {u : Use} {k : Nat} {x : Int} (ha : 0 ≤ u.a) (hr : 0 ≤ u.r) : onU m R u ⟨0, 1 + k, x⟩ = decide (u.a = k) := by
  unfold onU
  have e1 : decide ((0 : Int) = 1 + u.a ∧ (1 + k : Int) = 1 + m + u.r) = false := by simp; omega
  have e2 : decide ((0 : Int) = 1 + m + u.r ∧ (1 + k : Int) = 1 + m + R) = false := by simp; omega
  simp only [e1, e2, Bool.or_false]
  refine decide_eq_decide.2 ?_
  simp; omega
theorem onU_P {m R : Nat} {u : Use} {k : Nat} {j x : Int} (ha : 0 ≤ u.a) (hr : 0 ≤ u.r) (hk : k < m) : onU m R u ⟨1 + k, 1 + m + j, x⟩ = decide (u.a = k ∧ u.r = j) := by
  unfold onU
  have e1 : decide ((1 + k : Int) = 0 ∧ (1 + m + j : Int) = 1 + u.a) = false := by simp; omega
  have e2 : decide ((1 + k : Int) = 1 + m + u.r ∧ (1 + m + j : Int) = 1 + m + R) = false := by simp; omega
  simp only [e1, e2, Bool.or_false, Bool.false_or]
  refine decide_eq_decide.2 ?_
  omega
theorem onU_R {m R : Nat} {u : Use} {k : Nat} {x : Int} (ha : 0 ≤ u.a) (hr : 0 ≤ u.r) (hm : u.a < m) : onU m R u ⟨1 + m + k, 1 + m + R, x⟩ = decide (u.r = k) := by
  unfold onU
  have e1 : decide ((1 + m + k : Int) = 0 ∧ (1 + m + R : Int) = 1 + u.a) = false := by simp; omega
  have e2 : decide ((1 + m + k : Int) = 1 + u.a ∧ (1 + m + R : Int) = 1 + m + u.r) = false := by simp; omega
  simp only [e1, e2, Bool.false_or]
  refine decide_eq_decide.2 ?_
  simp; omega

theorem filter_A {u : Int} {l : List Att} {x : Use} {i R : Nat} {y : Att} (hr : 0 ≤ x.r) (hi : x.a = i) (hy : l[i]? = some y) : (upTo (edgeA u l) l.length).filter (onU l.length R x) = [⟨0, 1 + i, y.cr * u⟩] := by
  have hil := (List.getElem?_eq_some_iff.1 hy).1
  rw [upTo_filter, upTo_single (a := i) hil (fun k hk hne => ?_), edgeA_at hy, List.filter_cons, onU_A (by omega) hr]
  · simp [hi]
  · rw [edgeA_at (List.getElem?_eq_getElem hk), List.filter_cons, onU_A (by omega) hr]
    simp; omega
theorem filter_R {qs : List Req} {m : Nat} {x : Use} {r : Nat} {q : Req} (ha : 0 ≤ x.a) (hm : x.a < m) (hr : x.r = r) (hq : qs[r]? = some q) : (upTo (edgeR m qs) qs.length).filter (onU m qs.length x) = [⟨1 + m + r, 1 + m + qs.length, q.cr⟩] := by
  have hil := (List.getElem?_eq_some_iff.1 hq).1
  rw [upTo_filter, upTo_single (a := r) hil (fun k hk hne => ?_), edgeR_at hq, List.filter_cons, onU_R ha (by omega) hm]
  · simp [hr]
  · rw [edgeR_at (List.getElem?_eq_getElem hk), List.filter_cons, onU_R ha (by omega) hm]
    simp; omega
theorem filter_elig {qs : List Req} {a : Att} {r : Nat} {q : Req} (hq : qs[r]? = some q) (he : eligB q a = true) : (eligL qs a).filter (fun k => decide ((r : Int) = k)) = [(r : Int)] := by
  have hil := (List.getElem?_eq_some_iff.1 hq).1
  unfold eligL
  rw [upTo_filter, upTo_single (a := r) hil (fun k hk hne => ?_), eligF_at hq, he]
  · simp
  · rw [eligF_at (List.getElem?_eq_getElem hk)]
    split
    · simp; omega
    · rfl
theorem filter_pairs {qs : List Req} {l : List Att} {i r : Nat} {y : Att} {q : Req} (hy : l[i]? = some y) (hq : qs[r]? = some q) (he : eligB q y = true) : (pairsL qs l).filter (fun x => decide (i = x.1 ∧ (r : Int) = x.2)) = [(i, (r : Int))] := by
  have hil := (List.getElem?_eq_some_iff.1 hy).1
  unfold pairsL
  rw [upTo_filter, upTo_single (a := i) hil (fun k hk hne => ?_), pairsF_at hy, List.filter_map]
  · have : ((fun x : Nat × Int => decide (i = x.1 ∧ (r : Int) = x.2)) ∘ fun k => (i, k)) = fun k => decide ((r : Int) = k) := funext fun k => by simp
    rw [this, filter_elig hq he]; rfl
  · rw [pairsF_at (List.getElem?_eq_getElem hk), List.filter_map, List.map_eq_nil_iff, List.filter_eq_nil_iff]
    intro x _; simp; omega
theorem filter_P {qs : List Req} {l : List Att} {x : Use} {i r : Nat} {y : Att} {q : Req} (hi : x.a = i) (hr : x.r = r) (hy : l[i]? = some y) (hq : qs[r]? = some q) (he : eligB q y = true) :
    ((pairsL qs l).map (edgeP l)).filter (onU l.length qs.length x) = [edgeP l (i, (r : Int))] := by
  rw [List.filter_map, show (pairsL qs l).filter (onU l.length qs.length x ∘ edgeP l) = (pairsL qs l).filter (fun z => decide (i = z.1 ∧ (r : Int) = z.2)) from ?_, filter_pairs hy hq he]
  · rfl
  · refine List.filter_congr fun z hz => ?_
    show onU _ _ _ (edgeP l z) = _
    unfold edgeP
    rw [onU_P (by omega) (by omega) (pairsL_mem hz).1]
    refine decide_eq_decide.2 ?_
    omega

/-- One use, laid on its three edges, leaves the source and comes to the sink. -/
theorem outF_use {p : Prg} {l : List Att} {x : Use} {i r : Nat} {y : Att} {q : Req} (hi : x.a = i) (hr : x.r = r) (hy : l[i]? = some y) (hq : p.reqs[r]? = some q) (he : eligB q y = true) (v : Int) :
    outF (netL p l) ((netL p l).map fun e => if onU l.length p.reqs.length x e then x.c else 0) v = (if v = 0 then x.c else 0) - (if v = 1 + l.length + p.reqs.length then x.c else 0) := by
  have hil := (List.getElem?_eq_some_iff.1 hy).1
  rw [outF_filter]
  unfold netL
  rw [List.filter_append, List.filter_append, filter_A (by omega) hi hy, filter_P hi hr hy hq he, filter_R (by omega) (by omega) hr hq]
  simp only [List.map_append, List.sum_append, List.map_cons, List.map_nil, List.sum_cons, List.sum_nil, hopF, edgeP]
  omega
theorem outF_lay {p : Prg} {l : List Att} (v : Int) : ∀ {us : List Use}, (∀ u, u ∈ us → useB p.reqs l u = true) → outF (netL p l) ((netL p l).map (layU l.length p.reqs.length us)) v = (if v = 0 then usedC us else 0) - (if v = 1 + l.length + p.reqs.length then usedC us else 0)
  | [], _ => by
    have := outF_map_zero v (netL p l)
    simp only [layU, this, usedC, List.map_nil, List.sum_nil]; simp
  | u :: us, h => by
    obtain ⟨ia, ir, y, z, h1, h2, h3, h4, h5, h6, h7⟩ := useB_spec (h u (by simp))
    simp only [layU]
    rw [outF_map_add (fun e => if onU l.length p.reqs.length u e then u.c else 0) (layU l.length p.reqs.length us), outF_use h1 h2 h3 h4 h7, outF_lay v (fun x hx => h x (by simp [hx]))]
    simp only [usedC, List.map_cons, List.sum_cons]
    split <;> split <;> omega

theorem okF_map {g : Edge → Int} : ∀ {E : List Edge}, (∀ e, e ∈ E → 0 ≤ g e ∧ g e ≤ e.m) → okF E (E.map g)
  | [], _ => trivial
  | e :: E, h => ⟨(h e (by simp)).1, (h e (by simp)).2, okF_map fun x hx => h x (by simp [hx])⟩
theorem layU_nonneg {m R : Nat} {e : Edge} : ∀ {us : List Use}, (∀ u, u ∈ us → 0 ≤ u.c) → 0 ≤ layU m R us e
  | [], _ => by simp [layU]
  | u :: us, h => by
    have := layU_nonneg (m := m) (R := R) (e := e) (us := us) (fun x hx => h x (by simp [hx]))
    have := h u (by simp)
    simp only [layU]; split <;> omega
theorem layU_A {m R : Nat} {k : Nat} {x : Int} : ∀ {us : List Use}, (∀ u, u ∈ us → 0 ≤ u.a ∧ 0 ≤ u.r) → layU m R us ⟨0, 1 + k, x⟩ = sumA us k
  | [], _ => rfl
  | u :: us, h => by
    have h1 := h u (by simp)
    simp only [layU]; rw [layU_A (fun x hx => h x (by simp [hx])), onU_A h1.1 h1.2, sumA_cons]
    by_cases a : u.a = k <;> simp [a]
theorem layU_R {m R : Nat} {k : Nat} {x : Int} : ∀ {us : List Use}, (∀ u, u ∈ us → 0 ≤ u.a ∧ 0 ≤ u.r ∧ u.a < m) → layU m R us ⟨1 + m + k, 1 + m + R, x⟩ = sumR us k
  | [], _ => rfl
  | u :: us, h => by
    have h1 := h u (by simp)
    simp only [layU]; rw [layU_R (fun x hx => h x (by simp [hx])), onU_R h1.1 h1.2.1 h1.2.2, sumR_cons]
    by_cases a : u.r = k <;> simp [a]
theorem layU_P0 {m R : Nat} {k : Nat} {j x : Int} (hk : k < m) : ∀ {us : List Use}, (∀ u, u ∈ us → 0 ≤ u.a ∧ 0 ≤ u.r) → (∀ u, u ∈ us → ¬ (u.a = k ∧ u.r = j)) → layU m R us ⟨1 + k, 1 + m + j, x⟩ = 0
  | [], _, _ => rfl
  | u :: us, h, hn => by
    have h1 := h u (by simp)
    have h2 := hn u (by simp)
    simp only [layU]; rw [layU_P0 hk (fun x hx => h x (by simp [hx])) (fun x hx => hn x (by simp [hx])), onU_P h1.1 h1.2 hk]
    simp [h2]
theorem layU_P {m R : Nat} {k : Nat} {j x B : Int} (hk : k < m) (hB : 0 ≤ B) : ∀ {us : List Use}, (∀ u, u ∈ us → 0 ≤ u.a ∧ 0 ≤ u.r) → us.Pairwise (fun u v => useLt u v = true) → (∀ u, u ∈ us → u.a = k → u.c ≤ B) → layU m R us ⟨1 + k, 1 + m + j, x⟩ ≤ B
  | [], _, _, _ => by simpa [layU] using hB
  | u :: us, h, hp, hc => by
    have h1 := h u (by simp)
    rw [List.pairwise_cons] at hp
    simp only [layU]; rw [onU_P h1.1 h1.2 hk]
    by_cases a : u.a = k ∧ u.r = j
    · rw [layU_P0 hk (fun x hx => h x (by simp [hx])) (fun v hv => ?_)]
      · have := hc u (by simp) a.1
        simp [a]; omega
      · have := hp.1 v hv
        simp [useLt] at this; omega
    · have := layU_P (j := j) (x := x) (R := R) hk hB (fun x hx => h x (by simp [hx])) hp.2 (fun x hx => hc x (by simp [hx]))
      simp [a]; omega

theorem useLt_trans {a b c : Use} (h1 : useLt a b = true) (h2 : useLt b c = true) : useLt a c = true := by simp [useLt] at *; omega
theorem asgB_pw {uses : Int} {qs : List Req} {l : List Att} {us : List Use} (h : asgB uses qs l us = true) : us.Pairwise fun u v => useLt u v = true := by
  rw [List.pairwise_iff_getElem]
  intro i j hi hj hij
  induction j with
  | zero => omega
  | succ j ih =>
    obtain ⟨_, h0 | ⟨v, hv, hlt⟩⟩ := asgB_step h (List.getElem?_eq_getElem hj)
    · omega
    · have e : v = us[j] := by simpa [List.getElem?_eq_getElem (show j < us.length by omega)] using hv.symm
      subst e
      by_cases e : i = j
      · subst e; exact hlt
      · exact useLt_trans (ih (by omega) (by omega)) hlt
theorem asgB_use {uses : Int} {qs : List Req} {l : List Att} {us : List Use} (h : asgB uses qs l us = true) : ∀ u, u ∈ us → useB qs l u = true := fun u hu => by
  obtain ⟨k, hk⟩ := List.getElem?_of_mem hu
  exact (asgB_step h hk).1

/-- An assignment is a flow that counts what it assigns. -/
theorem flow_of_asg {p : Prg} {l : List Att} {us : List Use} (hc : ∀ a, a ∈ l → 0 ≤ a.cr) (h : asgB p.uses p.reqs l us = true) :
    ∃ F, okF (netL p l) F ∧ conserve (2 + l.length + p.reqs.length) 0 (1 + l.length + p.reqs.length) (netL p l) F ∧ outF (netL p l) F 0 = usedC us := by
  have hu := asgB_use h
  have hb : ∀ u, u ∈ us → 0 ≤ u.a ∧ 0 ≤ u.r ∧ u.a < l.length ∧ 0 ≤ u.c := fun u hx => by
    obtain ⟨ia, ir, y, z, h1, h2, h3, h4, h5, h6, h7⟩ := useB_spec (hu u hx)
    have := (List.getElem?_eq_some_iff.1 h3).1
    omega
  refine ⟨(netL p l).map (layU l.length p.reqs.length us), okF_map fun e he => ⟨layU_nonneg fun u hx => (hb u hx).2.2.2, ?_⟩, fun v hv hn0 hn1 => ?_, ?_⟩
  · unfold netL at he
    rw [List.mem_append, List.mem_append] at he
    rcases he with (he | he) | he
    · obtain ⟨k, hk, hx⟩ := mem_upTo he
      have hy := List.getElem?_eq_getElem hk
      rw [edgeA_at hy, List.mem_singleton] at hx
      subst hx
      rw [layU_A fun u hx => ⟨(hb u hx).1, (hb u hx).2.1⟩]
      exact asgB_A h hy
    · obtain ⟨x, hx, rfl⟩ := List.mem_map.1 he
      have hk := (pairsL_mem hx).1
      have hy := List.getElem?_eq_getElem hk
      unfold edgeP
      rw [hy]
      refine layU_P hk (hc _ (List.getElem_mem hk)) (fun u hx => ⟨(hb u hx).1, (hb u hx).2.1⟩) (asgB_pw h) (fun u hx ha => ?_)
      obtain ⟨ia, ir, y, z, h1, h2, h3, h4, h5, h6, h7⟩ := useB_spec (hu u hx)
      obtain rfl : ia = x.1 := by omega
      rw [hy] at h3
      obtain rfl := Option.some.inj h3
      exact h6
    · obtain ⟨k, hk, hx⟩ := mem_upTo he
      have hy := List.getElem?_eq_getElem hk
      rw [edgeR_at hy, List.mem_singleton] at hx
      subst hx
      rw [layU_R fun u hx => ⟨(hb u hx).1, (hb u hx).2.1, (hb u hx).2.2.1⟩]
      exact asgB_R h hy
  · rw [outF_lay _ hu, if_neg hn0, if_neg (by omega)]; rfl
  · rw [outF_lay _ hu, if_pos rfl, if_neg (by omega)]; omega

/-- No assignment counts more than a greatest flow. -/
theorem best_asg {p : Prg} {l : List Att} {us : List Use} {F : List Int} {C : Int → Bool} (hc : ∀ a, a ∈ l → 0 ≤ a.cr) (hM : MaxSpec (2 + l.length + p.reqs.length) 0 ((1 + l.length + p.reqs.length : Nat) : Int) (netL p l) F C) (h : asgB p.uses p.reqs l us = true) :
    usedC us ≤ outF (netL p l) F 0 := by
  obtain ⟨G, ok, cons, hv⟩ := flow_of_asg hc h
  rw [← hv]
  exact hM.best (netL_nodes p l) (by omega) (by omega) ok cons

/-- An assignment stays one beside a further attempt. -/
theorem asgB_more {uses : Int} {qs : List Req} {l : List Att} {us : List Use} {a : Att} (h : asgB uses qs l us = true) (hc : 0 ≤ a.cr) (hs : 0 ≤ uses) : asgB uses qs (l ++ [a]) us = true := by
  have hu := asgB_use h
  have huse : ∀ u, useB qs l u = true → useB qs (l ++ [a]) u = true := fun u hx => by
    unfold useB at hx ⊢
    simp only [Bool.and_eq_true, decide_eq_true_eq] at hx ⊢
    obtain ⟨⟨⟨⟨⟨h1, h2⟩, h3⟩, h4⟩, h5⟩, h6⟩ := hx
    refine ⟨⟨⟨⟨⟨h1, by rw [List.length_append]; omega⟩, h3⟩, h4⟩, h5⟩, ?_⟩
    rw [List.getElem?_append_left (by omega)]
    exact h6
  have h' := h
  unfold asgB at h' ⊢
  rw [Bool.and_eq_true, Bool.and_eq_true] at h' ⊢
  obtain ⟨⟨h1, h2⟩, h3⟩ := h'
  refine ⟨⟨List.all_eq_true.2 fun k hk => ?_, List.all_eq_true.2 fun k hk => ?_⟩, h3⟩
  · have h1k := List.all_eq_true.1 h1 k hk
    unfold stepB at h1k ⊢
    cases hx : us[k]? with
    | none => rfl
    | some u =>
      rw [hx] at h1k
      simp only [Option.elim_some, Bool.and_eq_true] at h1k ⊢
      exact ⟨huse u h1k.1, h1k.2⟩
  · by_cases hkl : k < l.length
    · have h2k := List.all_eq_true.1 h2 k (List.mem_range.2 hkl)
      unfold capA at h2k ⊢
      rw [List.getElem?_append_left hkl]
      exact h2k
    · have hk' := List.mem_range.1 hk
      rw [List.length_append, List.length_singleton] at hk'
      obtain rfl : k = l.length := by omega
      unfold capA
      rw [List.getElem?_append_right (Nat.le_refl _), Nat.sub_self]
      have e : sumA us l.length = 0 := by
        unfold sumA
        rw [show us.filter (fun u => decide (u.a = (l.length : Int))) = [] from List.filter_eq_nil_iff.2 fun u hx => ?_]
        · rfl
        · obtain ⟨ia, ir, y, z, h1, h2, h3, h4, h5, h6, h7⟩ := useB_spec (hu u hx)
          have := (List.getElem?_eq_some_iff.1 h3).1
          simp; omega
      rw [e, decide_eq_true_eq]
      exact Int.mul_nonneg hc hs
/-- An assignment stays one where each attempt may be used once more. -/
theorem asgB_uses {uses : Int} {qs : List Req} {l : List Att} {us : List Use} (h : asgB uses qs l us = true) (hc : ∀ a, a ∈ l → 0 ≤ a.cr) : asgB (uses + 1) qs l us = true := by
  unfold asgB at h ⊢
  rw [Bool.and_eq_true, Bool.and_eq_true] at h ⊢
  obtain ⟨⟨h1, h2⟩, h3⟩ := h
  refine ⟨⟨h1, List.all_eq_true.2 fun k hk => ?_⟩, h3⟩
  have h2k := of_decide_eq_true (List.all_eq_true.1 h2 k hk)
  refine decide_eq_true ?_
  have hkl := List.mem_range.1 hk
  rw [List.getElem?_eq_getElem hkl] at h2k ⊢
  simp only [Option.elim_some] at h2k ⊢
  have := hc _ (List.getElem_mem hkl)
  rw [Int.mul_add, Int.mul_one]; omega
end Go.Proofs.YtaiibchadlaifaaGreatDoor

namespace Go.Proofs.YtaiibchadlaifaaGreatDoor
open Go.ChangeShapes Go.RowKit
variable {H : Type} {enc : TypeId × Value → H} {P : Program}

theorem post_of_below {f : Func} {s : ChangeSpec} {apart fresh handsOn again : Bool} {W W' : World} {args : Array Value} {v : Value} {ds gs : List (DataW H)} {before pa pv : List MemPlace}
    (hW : DataW.Whole enc P f.params.toList s.vars apart W args.toList ds gs before)
    (hres : ∀ (b : Nat) (sp : Nat → Bool) (hd : Bool), DataW.TrodAll enc P W' b sp hd f.resultTypes.toList (v.resultList f.resultTypes.size) (s.fn H (ds ++ gs)).results [])
    (hargs : ∀ sp : Nat → Bool, (∀ p ∈ before, sp p.block = true) → DataW.TrodAll enc P W' 0 sp true f.params.toList args.toList (s.fn H (ds ++ gs)).args pa)
    (hvars : ∀ sp : Nat → Bool, (∀ p ∈ before, sp p.block = true) → DataW.TrodVars enc P W' sp s.vars (s.fn H (ds ++ gs)).vars pv)
    (hps : before = pa ++ pv) (hb : Below W.heap.size W W')
    (hok : ∀ (j : Nat) (t : TypeId) (r : Value), f.resultTypes[j]? = some t → (v.resultList f.resultTypes.size)[j]? = some r → Value.okWide P W' .any 0 t r) :
    s.post enc P f apart fresh handsOn again W args v W' := by
  have hold : ∀ p ∈ before, (fun b => decide (b < W.heap.size)) p.block = true := fun p hp => by simpa using hW.lt p hp
  have hlt : ∀ p ∈ before, p.block < W.heap.size := fun p hp => hW.lt p hp
  refine ⟨ds, gs, before, [], pa, pv, hW, hres _ _ _, hargs _ hold, hvars _ hold, World.keptBut_mono (fun p hp => ⟨hp, ?_⟩) (hb.frame (· ∈ before)), fun _ => ?_⟩
  · rw [hps, List.mem_append] at hp
    exact Or.inr hp
  · obtain ⟨_, _, _, _, _, hz, hn⟩ := hW
    refine ⟨hok, _, _, ([] ++ pa) ++ pv, ⟨[] ++ pa, pv, trodAll_append (hargs _ (fun _ _ => rfl)) (hres _ _ _), hvars _ (fun _ _ => rfl), rfl, ?_, ?_⟩, ?_⟩
    · intro b off hp
      have hp' := hlt _ (by rw [hps]; simpa using hp)
      rw [hb.frozen (p := ⟨b, off, none⟩) hp']
      exact hz b off (by rw [hps]; simpa using hp)
    · intro ha
      have := hn ha
      rw [hps] at this
      simpa using this
    · intro p hp _
      rw [hps]
      simpa using hp
end Go.Proofs.YtaiibchadlaifaaGreatDoor

namespace Go.Proofs.YtaiibchadlaifaaGreatDoor
open Go.ChangeShapes Go.RowKit Go.WideShapes Go.Deep

theorem list5 {α : Type} {l : List α} (h : l.length = 5) : ∃ a b c d e, l = [a, b, c, d, e] := by
  match l, h with
  | [a, b, c, d, e], _ => exact ⟨a, b, c, d, e, rfl⟩
theorem list6 {α : Type} {l : List α} (h : l.length = 6) : ∃ a b c d e f, l = [a, b, c, d, e, f] := by
  match l, h with
  | [a, b, c, d, e, f], _ => exact ⟨a, b, c, d, e, f, rfl⟩
theorem list7 {α : Type} {l : List α} (h : l.length = 7) : ∃ a b c d e f g, l = [a, b, c, d, e, f, g] := by
  match l, h with
  | [a, b, c, d, e, f, g], _ => exact ⟨a, b, c, d, e, f, g, rfl⟩
theorem list3 {α : Type} {l : List α} (h : l.length = 3) : ∃ a b c, l = [a, b, c] := by
  match l, h with
  | [a, b, c], _ => exact ⟨a, b, c, rfl⟩
theorem list2 {α : Type} {l : List α} (h : l.length = 2) : ∃ a b, l = [a, b] := by
  match l, h with
  | [a, b], _ => exact ⟨a, b, rfl⟩
theorem some_of_len {α : Type} {l : List α} {n i : Nat} (h : l.length = n) (hi : i < n) : ∃ x, l[i]? = some x := ⟨_, List.getElem?_eq_getElem (by omega)⟩

/-- What the cells of a type read as. -/
def Opn {α : Type} (P : Program) (t : TypeId) (d : Kd α) : Prop :=
  P.cellsOf t = d.sz ∧ ∀ (H : Type) (enc : TypeId × Value → H) (w : World) (base : Nat) (sp : Nat → Bool) (held : Bool) (fuel : Nat) (cs : List Value) (x : DataW H × List MemPlace), DataW.trod enc P w base sp held fuel t cs = some x → ∃ a, d.K w a cs

theorem opn_int {P : Program} {t : TypeId} (ht : P.underlying t = some (.int .i64)) (hc : P.cellsOf t = 1) : Opn P t kI :=
  ⟨hc, fun H enc w base sp held fuel cs x h => by obtain ⟨n, rfl, _, _⟩ := DataW.trod_int ht h; exact ⟨n, rfl⟩⟩

theorem opn_slice {H : Type} {enc : TypeId × Value → H} {w : World} {base : Nat} {sp : Nat → Bool} {held : Bool} {P : Program} {t e : TypeId} {α : Type} {d : Kd α} {fuel : Nat} {cs : List Value} {x : DataW H × List MemPlace}
    (ht : P.underlying t = some (.slice e)) (he : Opn P e d) (hz : 0 < d.sz) (h : DataW.trod enc P w base sp held fuel t cs = some x) :
    ∃ A xs c, cs = [.slice A xs.length c] ∧ xs.length ≤ c ∧ Rd d w A xs := by
  rcases open_slice ht h with ⟨rfl, rfl⟩ | ⟨a, len, cap, m, n, D, Pl, rfl, hb, hl, hm, hmm, rfl, hx⟩
  · exact ⟨none, [], 0, rfl, by simp, Rd.nil _ _ _⟩
  by_cases h0 : len = 0
  · subst h0
    exact ⟨some a, [], cap, rfl, by simp, Rd.nil _ _ _⟩
  have hlm : len ≤ m := by rw [hmm]; split <;> omega
  have each : ∀ i, i < len → ∃ p : α × List Value, d.K w p.1 p.2 ∧ w.cells? base (a.add (i * d.sz)) d.sz = some p.2 := fun i hi => by
    obtain ⟨cs', h1, h2⟩ := hx i (by omega)
    obtain ⟨y, hy⟩ := he.2 _ _ _ _ _ _ _ _ _ h2
    rw [he.1] at h1
    exact ⟨(y, cs'), hy, h1⟩
  haveI : Inhabited (α × List Value) := ⟨Classical.choose (each 0 (by omega))⟩
  obtain ⟨F, hF⟩ := choose_lt each
  obtain ⟨b, off, rfl⟩ : ∃ b off, a = ⟨b, off, none⟩ := by
    obtain ⟨b, off, spot⟩ := a
    obtain ⟨_, hlen, hc⟩ := World.cells?_some (hF 0 (by omega)).2
    have h0' := hc 0 hz
    have hlt : 0 < (F 0).2.length := by omega
    rw [List.getElem?_eq_getElem hlt] at h0'
    have hspot : spot = none := by simpa [Addr.add] using World.cell?_spot h0'
    subst hspot
    exact ⟨b, off, rfl⟩
  refine ⟨some ⟨b, off, none⟩, (List.range len).map fun i => (F i).1, cap, by simp, by simpa using hl, ?_, fun _ => ⟨b, off, rfl, fun i x hx => ?_⟩⟩
  · simp only [List.length_map, List.length_range]
    unfold maxLen at hm
    omega
  · have hi : i < len := by
      have := (List.getElem?_eq_some_iff.1 hx).1
      simpa using this
    obtain rfl : (F i).1 = x := by simpa [hi] using hx
    refine ⟨(F i).2, (hF i hi).1, fun j v hj => ?_⟩
    obtain ⟨_, hlen, hc⟩ := World.cells?_some (hF i hi).2
    have hjl : j < d.sz := by
      have := (List.getElem?_eq_some_iff.1 hj).1
      omega
    have h2 := hc j hjl
    rw [hj, Deep.add_add, add_plain] at h2
    rw [← h2, Nat.add_assoc]

theorem any_slice {H : Type} {enc : TypeId × Value → H} {w : World} {base : Nat} {sp : Nat → Bool} {held : Bool} {P : Program} {t e : TypeId} {fuel : Nat} {cs : List Value} {x : DataW H × List MemPlace}
    (ht : P.underlying t = some (.slice e)) (h : DataW.trod enc P w base sp held fuel t cs = some x) : ∃ a l c, cs = [.slice a l c] := by
  rcases open_slice ht h with ⟨hcs, _⟩ | ⟨a', len', cap', m, n, D, Pl, hcs, _⟩
  · exact ⟨_, _, _, hcs⟩
  · exact ⟨_, _, _, hcs⟩

theorem cells_int : Tryz.prog.cellsOf 3 = 1 := by kernel_rfl
theorem opn_Int : Opn Tryz.prog 3 kI := opn_int Tryz.underlying3 cells_int

theorem opn_Att : Opn Tryz.prog 28 kAtt := by
  refine ⟨by kernel_rfl, fun H enc w base sp held fuel cs x h => ?_⟩
  obtain ⟨xs, n, _, _, hl, hlen, hf⟩ := DataW.trod_struct Tryz.underlying28 h
  obtain ⟨c0, c1, c2, c3, c4, rfl⟩ := list5 (hl.trans (show Tryz.prog.cellsOf 28 = 5 by kernel_rfl))
  obtain ⟨y0, y1, y2, y3, y4, rfl⟩ := list5 (show xs.length = 5 from hlen)
  have f0 := hf 0 _ rfl
  have f1 := hf 1 _ rfl
  have f2 := hf 2 _ rfl
  have f3 := hf 3 _ rfl
  have f4 := hf 4 _ rfl
  obtain ⟨n0, e0, _, _⟩ := DataW.trod_int Tryz.underlying3 f0
  obtain ⟨n1, e1, _, _⟩ := DataW.trod_int Tryz.underlying3 f1
  obtain ⟨n2, e2, _, _⟩ := DataW.trod_int Tryz.underlying3 f2
  obtain ⟨n3, e3, _, _⟩ := DataW.trod_int Tryz.underlying3 f3
  obtain ⟨n4, e4, _, _⟩ := DataW.trod_int Tryz.underlying3 f4
  simp [cells_int] at e0 e1 e2 e3 e4
  subst e0 e1 e2 e3 e4
  exact ⟨⟨n0, n1, n2, n3, n4⟩, rfl⟩
theorem opn_Use : Opn Tryz.prog 95 kUse := by
  refine ⟨by kernel_rfl, fun H enc w base sp held fuel cs x h => ?_⟩
  obtain ⟨xs, n, _, _, hl, hlen, hf⟩ := DataW.trod_struct Tryz.underlying95 h
  obtain ⟨c0, c1, c2, rfl⟩ := list3 (hl.trans (show Tryz.prog.cellsOf 95 = 3 by kernel_rfl))
  obtain ⟨y0, y1, y2, rfl⟩ := list3 (show xs.length = 3 from hlen)
  have f0 := hf 0 _ rfl
  have f1 := hf 1 _ rfl
  have f2 := hf 2 _ rfl
  obtain ⟨n0, e0, _, _⟩ := DataW.trod_int Tryz.underlying3 f0
  obtain ⟨n1, e1, _, _⟩ := DataW.trod_int Tryz.underlying3 f1
  obtain ⟨n2, e2, _, _⟩ := DataW.trod_int Tryz.underlying3 f2
  simp [cells_int] at e0 e1 e2
  subst e0 e1 e2
  exact ⟨⟨n0, n1, n2⟩, rfl⟩
theorem opn_Req : Opn Tryz.prog 75 kReq := by
  refine ⟨by kernel_rfl, fun H enc w base sp held fuel cs x h => ?_⟩
  obtain ⟨xs, n, _, _, hl, hlen, hf⟩ := DataW.trod_struct Tryz.underlying75 h
  obtain ⟨c0, c1, c2, c3, c4, c5, rfl⟩ := list6 (hl.trans (show Tryz.prog.cellsOf 75 = 6 by kernel_rfl))
  obtain ⟨y0, y1, y2, y3, y4, y5, rfl⟩ := list6 (show xs.length = 6 from hlen)
  have f0 := hf 0 _ rfl
  have f1 := hf 1 _ rfl
  have f2 := hf 2 _ rfl
  have f3 := hf 3 _ rfl
  have f4 := hf 4 _ rfl
  have f5 := hf 5 _ rfl
  obtain ⟨n0, e0, _, _⟩ := DataW.trod_string Tryz.underlying9 f0
  obtain ⟨n1, e1, _, _⟩ := DataW.trod_int Tryz.underlying3 f1
  obtain ⟨n2, e2, _, _⟩ := DataW.trod_int Tryz.underlying3 f2
  obtain ⟨n3, e3, _⟩ := DataW.trod_bool Tryz.underlying4 f3
  obtain ⟨A4, l4, k4, e4⟩ := any_slice Tryz.underlying73 f4
  obtain ⟨A5, z5, k5, e5, hle, hr⟩ := opn_slice Tryz.underlying34 opn_Int (by decide) f5
  simp [cells_int, show Tryz.prog.cellsOf 9 = 1 by kernel_rfl, show Tryz.prog.cellsOf 4 = 1 by kernel_rfl, show Tryz.prog.cellsOf 34 = 1 by kernel_rfl, show Tryz.prog.cellsOf 73 = 1 by kernel_rfl] at e0 e1 e2 e3 e4 e5
  subst e0 e1 e2 e3 e4 e5
  exact ⟨⟨n0, n1, n2, n3, A4, l4, k4, z5⟩, A5, k5, rfl, hle, hr⟩
theorem open_Prg {H : Type} {enc : TypeId × Value → H} {w : World} {base : Nat} {sp : Nat → Bool} {held : Bool} {fuel : Nat} {cs : List Value} {x : DataW H × List MemPlace} (h : DataW.trod enc Tryz.prog w base sp held fuel 26 cs = some x) :
    ∃ (p : Prg) (A : Option Addr) (c : Nat), cs = [.string p.nm, .int .i64 p.num, .int .i64 p.uses, .int .i64 p.earn, .int .i64 p.mn, .int .i64 p.md, .slice A p.reqs.length c] ∧ p.reqs.length ≤ c ∧ Rd kReq w A p.reqs := by
  obtain ⟨xs, n, _, _, hl, hlen, hf⟩ := DataW.trod_struct Tryz.underlying26 h
  obtain ⟨c0, c1, c2, c3, c4, c5, c6, rfl⟩ := list7 (hl.trans (show Tryz.prog.cellsOf 26 = 7 by kernel_rfl))
  obtain ⟨y0, y1, y2, y3, y4, y5, rfl⟩ := list6 (show xs.length = 6 from hlen)
  have f0 := hf 0 _ rfl
  have f1 := hf 1 _ rfl
  have f2 := hf 2 _ rfl
  have f3 := hf 3 _ rfl
  have f4 := hf 4 _ rfl
  have f5 := hf 5 _ rfl
  obtain ⟨n0, e0, _, _⟩ := DataW.trod_string Tryz.underlying9 f0
  obtain ⟨n1, e1, _, _⟩ := DataW.trod_int Tryz.underlying3 f1
  obtain ⟨n2, e2, _, _⟩ := DataW.trod_int Tryz.underlying3 f2
  obtain ⟨n3, e3, _, _⟩ := DataW.trod_int Tryz.underlying3 f3
  obtain ⟨xs4, n4, _, _, hl4, hlen4, hf4⟩ := DataW.trod_struct Tryz.underlying23 f4
  obtain ⟨z0, z1, rfl⟩ := list2 (show xs4.length = 2 from hlen4)
  have g0 := hf4 0 _ rfl
  have g1 := hf4 1 _ rfl
  obtain ⟨m0, d0, _, _⟩ := DataW.trod_int Tryz.underlying3 g0
  obtain ⟨m1, d1, _, _⟩ := DataW.trod_int Tryz.underlying3 g1
  obtain ⟨A5, q5, k5, e5, hle, hr⟩ := opn_slice Tryz.underlying24 opn_Req (by decide) f5
  simp [cells_int, show Tryz.prog.cellsOf 9 = 1 by kernel_rfl, show Tryz.prog.cellsOf 23 = 2 by kernel_rfl, show Tryz.prog.cellsOf 24 = 1 by kernel_rfl] at e0 e1 e2 e3 e5 d0 d1
  subst e0 e1 e2 e3 e5 d0 d1
  exact ⟨⟨n0, n1, n2, n3, m0, m1, q5⟩, A5, k5, rfl, hle, hr⟩

theorem agg_of {P : Program} {w : World} {b0 : Nat} {r : Go.Reach} {t : TypeId} {fs : Array Field} {v : Value} (ht : P.underlying t = some (.struct fs)) (hv : Value.okWide P w r b0 t v) : ∃ cs, v = .agg cs := by
  obtain ⟨cs, h, _⟩ := okWide_struct ht hv
  exact ⟨cs, h⟩
set_option maxRecDepth 100000 in
/-- A programme handed over by value. -/
theorem arg_Prg {H : Type} {enc : TypeId × Value → H} {w : World} {base b0 : Nat} {sp : Nat → Bool} {held : Bool} {r : Go.Reach} {v : Value} {d : DataW H} {ps : List MemPlace} (hv : Value.okWide Tryz.prog w r b0 26 v) (h : DataW.Trod enc Tryz.prog w base sp held 26 v d ps) :
    ∃ (p : Prg) (A : Option Addr) (c : Nat), v = .agg #[.string p.nm, .int .i64 p.num, .int .i64 p.uses, .int .i64 p.earn, .int .i64 p.mn, .int .i64 p.md, .slice A p.reqs.length c] ∧ p.reqs.length ≤ c ∧ Rd kReq w A p.reqs := by
  obtain ⟨cs, hcv⟩ := agg_of Tryz.underlying26 hv
  subst hcv
  obtain ⟨fuel, hf⟩ := h
  obtain ⟨p, A, c, hcs, h1, h2⟩ := open_Prg hf
  refine ⟨p, A, c, ?_, h1, h2⟩
  have : cs.toList = _ := hcs
  rw [← this]
set_option maxRecDepth 100000 in
/-- An attempt handed over by value. -/
theorem arg_Att {H : Type} {enc : TypeId × Value → H} {w : World} {base b0 : Nat} {sp : Nat → Bool} {held : Bool} {r : Go.Reach} {v : Value} {d : DataW H} {ps : List MemPlace} (hv : Value.okWide Tryz.prog w r b0 28 v) (h : DataW.Trod enc Tryz.prog w base sp held 28 v d ps) :
    ∃ a : Att, v = .agg #[.int .i64 a.c, .int .i64 a.t, .int .i64 a.g, .int .i64 a.cam, .int .i64 a.cr] := by
  obtain ⟨cs, hcv⟩ := agg_of Tryz.underlying28 hv
  subst hcv
  obtain ⟨fuel, hf⟩ := h
  obtain ⟨a, hcs⟩ := opn_Att.2 _ _ _ _ _ _ _ _ _ hf
  refine ⟨a, ?_⟩
  have : cs.toList = _ := hcs
  show Value.agg cs = .agg (Att.enc a).toArray
  rw [← this]
set_option maxRecDepth 100000 in
/-- A slice handed over. -/
theorem arg_slice {α : Type} {k : Kd α} {H : Type} {enc : TypeId × Value → H} {w : World} {base b0 : Nat} {sp : Nat → Bool} {held : Bool} {r : Go.Reach} {t e : TypeId} {v : Value} {d : DataW H} {ps : List MemPlace} (ht : Tryz.prog.underlying t = some (.slice e)) (he : Opn Tryz.prog e k) (hz : 0 < k.sz)
    (hv : Value.okWide Tryz.prog w r b0 t v) (h : DataW.Trod enc Tryz.prog w base sp held t v d ps) :
    ∃ A xs c, v = .slice A xs.length c ∧ xs.length ≤ c ∧ Rd k w A xs := by
  obtain ⟨a, len, cap, hcv⟩ := okWide_slice ht hv
  subst hcv
  obtain ⟨fuel, hf⟩ := h
  obtain ⟨A, xs, c, hcs, h1, h2⟩ := opn_slice ht he hz hf
  refine ⟨A, xs, c, ?_, h1, h2⟩
  simpa [Value.cells] using hcs
end Go.Proofs.YtaiibchadlaifaaGreatDoor

namespace Go.Proofs.YtaiibchadlaifaaGreatDoor
open Go.ChangeShapes Go.WideShapes Go.ChangeAt Go.RowKit

theorem own : ownKnob Tryz.prog.godebug = none := by kernel_rfl
theorem laidOut : laidOutB Tryz.prog = true := by kernel_rfl
/-- The heap that the door's own run leaves. -/
theorem door_met (os : Os) (args : Array Value) : laidMetH Tryz.prog [("sizar/rules.kinds", Rows.laid_sizar_rules_kinds)] ((World.doorLaid Tryz.prog 23 os).forCall (fun _ _ => 0) ⟨#[], args, []⟩).memory :=
  laidMetH_of_parts3 (fuel := 8) (laidMet_of_run' 8 (by kernel_rfl) (by kernel_rfl)) (by kernel_rfl) (by kernel_rfl)

theorem trodAll_below {H : Type} {enc : TypeId × Value → H} {P : Program} (hl : laidOutB P = true) {W W' : World} (hb : Below W.heap.size W W') {sp : Nat → Bool} :
    ∀ {ts : List TypeId} {vs : List Value} {ds : List (DataW H)} {ps : List MemPlace}, (ts.all fun t => P.readableRec t && decide (t < P.types.size)) = true → DataW.TrodAll enc P W 0 (fun _ => true) true ts vs ds ps →
      (∀ p ∈ ps, p.block < W.heap.size) → (∀ p ∈ ps, sp p.block = true) → DataW.TrodAll enc P W' 0 sp true ts vs ds ps
  | [], _, _, _, _, h, _, _ => by
    obtain ⟨rfl, rfl, rfl⟩ := trodAll_nil h
    exact trodAll_mk0
  | t :: ts, _, _, _, ht, h, hlt, hsp => by
    obtain ⟨v, vs, d, ds, p, q, rfl, rfl, rfl, h1, h2⟩ := trodAll_cons h
    simp only [List.all_cons, Bool.and_eq_true, decide_eq_true_eq] at ht
    refine trodAll_cons_mk (WideElems.Trod_stays hl ht.1.1 ht.1.2 h1 (fun x hx => hb.same (hlt x (by simp [hx]))) (fun x hx => hsp x (by simp [hx]))) (trodAll_below hl hb (by simpa using ht.2) h2 (fun x hx => hlt x (by simp [hx])) (fun x hx => hsp x (by simp [hx])))

theorem trodAll_dlen {H : Type} {enc : TypeId × Value → H} {P : Program} {w : World} {base : Nat} {sp : Nat → Bool} {held : Bool} : ∀ {ts : List TypeId} {vs : List Value} {ds : List (DataW H)} {ps : List MemPlace}, DataW.TrodAll enc P w base sp held ts vs ds ps → ds.length = ts.length
  | [], _, _, _, h => by
    obtain ⟨rfl, rfl, rfl⟩ := trodAll_nil h
    rfl
  | t :: ts, _, _, _, h => by
    obtain ⟨v, vs, d, ds, p, q, rfl, rfl, rfl, h1, h2⟩ := trodAll_cons h
    simp [trodAll_dlen h2]

set_option maxRecDepth 100000 in
/-- A law that answers true and leaves what lay there: its row. -/
theorem law_lifted (os : Os) (started : os.Started) (H : Type) (enc : TypeId × Value → H) {f : FuncId} {fn : Func} {s : ChangeSpec} (wargs : Array Value)
    (noInit : Tryz.checked.prog.inits.idxOf? f = none) (hfn : Tryz.checked.prog.funcs[f]? = some fn) (hvars : s.vars = []) (hres : fn.resultTypes = #[4])
    (hread : (fn.params.toList.all fun t => Tryz.prog.readableRec t && decide (t < Tryz.prog.types.size)) = true)
    (hspec : ∀ ds : List (DataW H), ds.length = fn.params.toList.length → s.fn H ds = { results := [.lit (.bool true)], args := ds })
    (hsh : ((World.doorLaid Tryz.prog 23 os).forCall (fun _ _ => 0) ⟨#[], wargs, []⟩).Shaped Tryz.checked.prog)
    (hok : Input.okWideB Tryz.checked.prog ((World.doorLaid Tryz.prog 23 os).forCall (fun _ _ => 0) ⟨#[], wargs, []⟩) f ⟨#[], wargs, []⟩ = true)
    (hpre : s.preB enc Tryz.checked.prog fn [] false ((World.doorLaid Tryz.prog 23 os).forCall (fun _ _ => 0) ⟨#[], wargs, []⟩).memory wargs 8 = true)
    (hsz : s.sizedB enc Tryz.checked.prog fn false ((World.doorLaid Tryz.prog 23 os).forCall (fun _ _ => 0) ⟨#[], wargs, []⟩).memory wargs 8 = true)
    (hC : ∀ (W : World) (base : Nat) (args : Array Value) (ds : List (DataW H)) (p : List MemPlace), (∀ (j : Nat) t v, fn.params[j]? = some t → args[j]? = some v → Value.okWide Tryz.prog W .any base t v) →
      DataW.TrodAll enc Tryz.prog W 0 (fun _ => true) true fn.params.toList args.toList ds p → Calls Tryz.prog f args W fun e W' => e = .returned (.bool true) ∧ Below W.heap.size W W') :
    ReturnsInHanded {} Tryz.checked os f .any (fun w args => (s.pre enc Tryz.prog fn [] false w args ∧ laidMetH Tryz.prog [("sizar/rules.kinds", Rows.laid_sizar_rules_kinds)] w) ∧ sizedMet enc Tryz.prog fn (OpenSpec.ofChange s) false w args)
      (s.post enc Tryz.prog fn false true false false) := by
  refine returnsInHanded_of_change_and (C := Tryz.checked) (X := fun w _ => laidMetH Tryz.prog [("sizar/rules.kinds", Rows.laid_sizar_rules_kinds)] w) (fun _ _ _ hh h => h.of_heap hh) own started noInit hfn
    (ChangeSpec.witness_shaped (enc := enc) (C := Tryz.checked) (os := os) (X := fun w _ => laidMetH Tryz.prog [("sizar/rules.kinds", Rows.laid_sizar_rules_kinds)] w) false (World.doorLaid Tryz.prog 23 os) wargs 8 rfl hsh hok hpre hsz (door_met os _)) ?_
  intro W base args ds gs before hval hW _ _ _ _
  have hW' := hW
  obtain ⟨p, q, hA0, hV, rfl, hfz, hnd⟩ := hW
  have hA : DataW.TrodAll enc Tryz.prog W 0 (fun _ => true) true fn.params.toList args.toList ds p := hA0
  rw [hvars] at hV
  obtain ⟨rfl, rfl⟩ := trodVars_none hV
  have hlen : ds.length = fn.params.toList.length := trodAll_dlen hA
  refine (hC W base args ds p hval hA).mono fun e W' ⟨he, hb⟩ => ?_
  subst he
  have e1 : s.fn H (ds ++ []) = { results := [.lit (.bool true)], args := ds } := by rw [List.append_nil]; exact hspec ds hlen
  refine ⟨_, rfl, post_of_below (pa := p) (pv := []) hW' (fun b sp hd => ?_) (fun sp hsp => ?_) (fun sp hsp => ?_) rfl hb (ok_one hres rfl (okWide_bool_mk Tryz.underlying4 _))⟩
  · rw [e1, hres]
    exact trodAll_cons_mk (shut_bool Tryz.underlying4 _) trodAll_mk0
  · rw [e1]
    exact trodAll_below laidOut hb hread hA (fun x hx => hW'.lt x (by simp [hx])) (fun x hx => hsp x (by simp [hx]))
  · rw [e1, hvars]
    rfl
end Go.Proofs.YtaiibchadlaifaaGreatDoor
