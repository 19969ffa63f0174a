/-
  The uses that a flow counts are an assignment, in plain Lean. Conditions: none.
  degree.Of on the empty world: what is reached of book and facts. Conditions: the world holds nothing.
  degree.Of on the empty world. Conditions: the world holds nothing.
  The law's sample: a programme of two requirements and two attempts. Conditions: none.
  A drawn region with calls of the program's functions in its head: an operation that comes up alone may be a call. Conditions: none.
-/
import Derived.Test.YtaiibchadlaifaaGreatDoorZe
set_option linter.unusedVariables false
set_option linter.unusedSimpArgs false

namespace Go.Proofs.YtaiibchadlaifaaGreatDoor

theorem outF_append {l1 l2 : List Edge} {v : Int} : ∀ {F1 F2 : List Int}, F1.length = l1.length → outF (l1 ++ l2) (F1 ++ F2) v = outF l1 F1 v + outF l2 F2 v := by
  induction l1 with
  | nil => intro F1 F2 h; cases F1 with
    | nil => simp [outF]
    | cons => simp at h
  | cons e l1 ih => intro F1 F2 h; cases F1 with
    | nil => simp at h
    | cons x F1 => simp only [List.cons_append, outF]; rw [ih (by simpa using h)]; omega
theorem outF_none {v : Int} : ∀ {l : List Edge} (F : List Int), (∀ e, e ∈ l → v ≠ e.f ∧ v ≠ e.t) → outF l F v = 0
  | [], F, _ => by cases F <;> rfl
  | e :: l, [], _ => rfl
  | e :: l, x :: F, h => by
    obtain ⟨a, b⟩ := h e (by simp)
    simp only [outF]
    rw [outF_none F (fun e he => h e (by simp [he])), if_neg a, if_neg b]; omega
theorem upTo_pairwise {β : Type} {R : β → β → Prop} {f : Nat → List β} (h1 : ∀ n, (f n).Pairwise R) (h2 : ∀ m n, m < n → ∀ x, x ∈ f m → ∀ y, y ∈ f n → R x y) : ∀ n, (upTo f n).Pairwise R
  | 0 => List.Pairwise.nil
  | n + 1 => by
    rw [upTo, List.pairwise_append]
    exact ⟨upTo_pairwise h1 h2 n, h1 n, fun a ha b hb => by obtain ⟨k, hk, hx⟩ := mem_upTo ha; exact h2 k n hk a hx b hb⟩

theorem eligL_pw (qs : List Req) (a : Att) : (eligL qs a).Pairwise (· < ·) := by
  refine upTo_pairwise (fun n => ?_) (fun m n hmn x hx y hy => ?_) _
  · unfold eligF; split <;> simp
  · unfold eligF at hx hy
    split at hx <;> split at hy <;> simp at hx hy
    subst hx hy; omega
def pLt (x y : Nat × Int) : Prop := x.1 < y.1 ∨ (x.1 = y.1 ∧ x.2 < y.2)
theorem pairsF_fst {qs : List Req} {l : List Att} {i : Nat} {x : Nat × Int} (h : x ∈ pairsF qs l i) : x.1 = i := by
  unfold pairsF at h
  cases hl : l[i]? with
  | none => rw [hl] at h; simp at h
  | some a => rw [hl] at h; simp at h; obtain ⟨k, _, rfl⟩ := h; rfl
theorem pairsL_pw (qs : List Req) (l : List Att) : (pairsL qs l).Pairwise pLt := by
  refine upTo_pairwise (fun n => ?_) (fun m n hmn x hx y hy => ?_) _
  · unfold pairsF
    cases l[n]? with
    | none => simp
    | some a =>
      simp only [Option.map_some, Option.getD_some]
      rw [List.pairwise_map]
      exact (eligL_pw qs a).imp fun h => .inr ⟨rfl, h⟩
  · exact .inl (by rw [pairsF_fst hx, pairsF_fst hy]; exact hmn)
theorem pairsL_elig {qs : List Req} {l : List Att} {x : Nat × Int} (h : x ∈ pairsL qs l) : ∃ (y : Att) (z : Req) (r : Nat), l[x.1]? = some y ∧ x.2 = r ∧ qs[r]? = some z ∧ eligB z y = true := by
  obtain ⟨i, hi, hx⟩ := mem_upTo h
  have h1 := pairsF_fst hx
  unfold pairsF at hx
  rw [List.getElem?_eq_getElem hi] at hx
  simp at hx
  obtain ⟨k, hk, rfl⟩ := hx
  obtain ⟨r, hr, hk2⟩ := mem_upTo hk
  unfold eligF at hk2
  rw [List.getElem?_eq_getElem hr] at hk2
  simp at hk2
  obtain ⟨he, rfl⟩ := hk2
  exact ⟨l[i], qs[r], r, List.getElem?_eq_getElem hi, rfl, List.getElem?_eq_getElem hr, he⟩

theorem usesL_cons (x : Nat × Int) (g : Int) (ps : List (Nat × Int)) (G : List Int) : usesL (x :: ps) (g :: G) = (if 0 < g then [⟨x.1, x.2, g⟩] else []) ++ usesL ps G := by
  unfold usesL
  rw [List.zip_cons_cons, List.filterMap_cons]
  by_cases h : 0 < g <;> simp [h]
theorem usesL_mem {u : Use} : ∀ {ps : List (Nat × Int)} {G : List Int}, u ∈ usesL ps G → ∃ (j : Nat) (x : Nat × Int), ps[j]? = some x ∧ G[j]? = some u.c ∧ u.a = x.1 ∧ u.r = x.2 ∧ 0 < u.c
  | [], _, h => by simp [usesL] at h
  | _ :: _, [], h => by simp [usesL] at h
  | x :: ps, g :: G, h => by
    rw [usesL_cons, List.mem_append] at h
    rcases h with h | h
    · split at h
      · rename_i hg; simp at h; subst h; exact ⟨0, x, rfl, rfl, rfl, rfl, hg⟩
      · cases h
    · obtain ⟨j, y, a, b, c⟩ := usesL_mem h; exact ⟨j + 1, y, a, b, c⟩
theorem usesL_pw : ∀ {ps : List (Nat × Int)} {G : List Int}, ps.Pairwise pLt → (usesL ps G).Pairwise fun x y => useLt x y = true
  | [], _, _ => by simp [usesL]
  | _ :: _, [], _ => by simp [usesL]
  | x :: ps, g :: G, h => by
    rw [List.pairwise_cons] at h
    rw [usesL_cons, List.pairwise_append]
    refine ⟨by split <;> simp, usesL_pw h.2, fun a ha b hb => ?_⟩
    split at ha
    · simp at ha; subst ha
      obtain ⟨j, y, hy, _, h1, h2, _⟩ := usesL_mem hb
      have := h.1 y (List.mem_of_getElem? hy)
      unfold pLt at this
      unfold useLt
      simp only [Bool.or_eq_true, Bool.and_eq_true, decide_eq_true_eq]
      rw [h1, h2]
      omega
    · cases ha
theorem sumA_cons (u : Use) (us : List Use) (i : Int) : sumA (u :: us) i = (if u.a = i then u.c else 0) + sumA us i := by
  unfold sumA; rw [List.filter_cons]; by_cases h : u.a = i <;> simp [h]
theorem sumR_cons (u : Use) (us : List Use) (i : Int) : sumR (u :: us) i = (if u.r = i then u.c else 0) + sumR us i := by
  unfold sumR; rw [List.filter_cons]; by_cases h : u.r = i <;> simp [h]
/-- The middle edges' flow out of an attempt's node is what its uses count. -/
theorem out_att {l : List Att} {i : Nat} (hi : i < l.length) : ∀ {ps : List (Nat × Int)} {G : List Int}, (∀ x, x ∈ ps → 0 ≤ x.2) → (∀ g, g ∈ G → 0 ≤ g) → G.length = ps.length → outF (ps.map (edgeP l)) G (1 + i) = sumA (usesL ps G) i
  | [], [], _, _, _ => rfl
  | x :: ps, g :: G, h, hg, hl => by
    rw [List.map_cons, usesL_cons]
    simp only [outF]
    rw [out_att hi (fun y hy => h y (by simp [hy])) (fun y hy => hg y (by simp [hy])) (by simpa using hl)]
    have h0 := h x (by simp)
    have hg0 := hg g (by simp)
    have e1 : (edgeP l x).f = 1 + x.1 := rfl
    have e2 : (edgeP l x).t = 1 + l.length + x.2 := rfl
    rw [e1, e2, if_neg (show ¬ ((1 : Int) + i = 1 + l.length + x.2) by omega)]
    by_cases hx : x.1 = i
    · rw [if_pos (by omega)]
      by_cases hp : 0 < g
      · rw [if_pos hp, List.singleton_append, sumA_cons, if_pos (by show (x.1 : Int) = i; omega)]; dsimp only; omega
      · rw [if_neg hp, List.nil_append]; omega
    · rw [if_neg (by omega)]
      by_cases hp : 0 < g
      · rw [if_pos hp, List.singleton_append, sumA_cons, if_neg (by show ¬ (x.1 : Int) = i; omega)]; omega
      · rw [if_neg hp, List.nil_append]; omega
theorem out_req {l : List Att} {k : Nat} : ∀ {ps : List (Nat × Int)} {G : List Int}, (∀ x, x ∈ ps → x.1 < l.length) → (∀ g, g ∈ G → 0 ≤ g) → G.length = ps.length → outF (ps.map (edgeP l)) G (1 + l.length + k) = - sumR (usesL ps G) k
  | [], [], _, _, _ => rfl
  | x :: ps, g :: G, h, hg, hl => by
    rw [List.map_cons, usesL_cons]
    simp only [outF]
    rw [out_req (fun y hy => h y (by simp [hy])) (fun y hy => hg y (by simp [hy])) (by simpa using hl)]
    have h0 := h x (by simp)
    have hg0 := hg g (by simp)
    have e1 : (edgeP l x).f = 1 + x.1 := rfl
    have e2 : (edgeP l x).t = 1 + l.length + x.2 := rfl
    rw [e1, e2, if_neg (show ¬ ((1 : Int) + l.length + k = 1 + x.1) by omega)]
    by_cases hx : x.2 = k
    · rw [if_pos (by omega)]
      by_cases hp : 0 < g
      · rw [if_pos hp, List.singleton_append, sumR_cons, if_pos hx]; dsimp only; omega
      · rw [if_neg hp, List.nil_append]; omega
    · rw [if_neg (by omega)]
      by_cases hp : 0 < g
      · rw [if_pos hp, List.singleton_append, sumR_cons, if_neg hx]; omega
      · rw [if_neg hp, List.nil_append]; omega

theorem list_snoc {α : Type} : ∀ {xs : List α} {n : Nat}, xs.length = n + 1 → ∃ ys x, xs = ys ++ [x] ∧ ys.length = n := fun {xs n} h => by
  have hn : xs ≠ [] := by rintro rfl; simp at h
  exact ⟨xs.dropLast, xs.getLast hn, (List.dropLast_concat_getLast hn).symm, by rw [List.length_dropLast]; omega⟩
/-- What flows into an attempt's node is no more than its edge holds. -/
theorem in_att {u : Int} {l : List Att} {i : Nat} {y : Att} (hy : l[i]? = some y) : ∀ {n : Nat} {F : List Int}, n ≤ l.length → okF (upTo (edgeA u l) n) F → -(if i < n then y.cr * u else 0) ≤ outF (upTo (edgeA u l) n) F (1 + i)
  | 0, F, _, h => by cases F <;> simp [upTo, outF]
  | n + 1, F, hn, h => by
    obtain ⟨a, ha⟩ : ∃ a, l[n]? = some a := ⟨_, List.getElem?_eq_getElem (by omega)⟩
    have hlen := okF_len h
    rw [upTo, edgeA_at ha] at h hlen ⊢
    rw [List.length_append, List.length_singleton] at hlen
    obtain ⟨F1, x, rfl, h1⟩ := list_snoc hlen
    rw [okF_append h1] at h
    rw [outF_append h1]
    have ih := in_att (u := u) hy (n := n) (by omega) h.1
    have hx := h.2
    simp only [okF, and_true] at hx
    simp only [outF]
    rw [if_neg (show ¬ ((1 : Int) + i = 0) by omega)]
    by_cases hin : i = n
    · subst hin
      have : a = y := by rw [ha] at hy; injection hy
      subst this
      rw [if_pos rfl, if_pos (by omega)]
      rw [if_neg (by omega)] at ih
      omega
    · rw [if_neg (show ¬ ((1 : Int) + i = 1 + n) by omega)]
      by_cases h3 : i < n
      · rw [if_pos (by omega)]; rw [if_pos h3] at ih; omega
      · rw [if_neg (by omega)]; rw [if_neg h3] at ih; omega
theorem out_R {m : Nat} {qs : List Req} {k : Nat} {q : Req} (hq : qs[k]? = some q) : ∀ {n : Nat} {F : List Int}, n ≤ qs.length → okF (upTo (edgeR m qs) n) F → outF (upTo (edgeR m qs) n) F (1 + m + k) ≤ (if k < n then q.cr else 0)
  | 0, F, _, h => by cases F <;> simp [upTo, outF]
  | n + 1, F, hn, h => by
    obtain ⟨a, ha⟩ : ∃ a, qs[n]? = some a := ⟨_, List.getElem?_eq_getElem (by omega)⟩
    have hk := (List.getElem?_eq_some_iff.1 hq).1
    have hlen := okF_len h
    rw [upTo, edgeR_at ha] at h hlen ⊢
    rw [List.length_append, List.length_singleton] at hlen
    obtain ⟨F1, x, rfl, h1⟩ := list_snoc hlen
    rw [okF_append h1] at h
    rw [outF_append h1]
    have ih := out_R (m := m) hq (n := n) (by omega) h.1
    have hx := h.2
    simp only [okF, and_true] at hx
    simp only [outF]
    rw [if_neg (show ¬ ((1 : Int) + m + k = 1 + m + qs.length) by omega)]
    by_cases hin : k = n
    · subst hin
      have : a = q := by rw [ha] at hq; injection hq
      subst this
      rw [if_pos rfl, if_pos (by omega)]
      rw [if_neg (by omega)] at ih
      omega
    · rw [if_neg (show ¬ ((1 : Int) + m + k = 1 + m + n) by omega)]
      by_cases h3 : k < n
      · rw [if_pos (by omega)]; rw [if_pos h3] at ih; omega
      · rw [if_neg (by omega)]; rw [if_neg h3] at ih; omega

theorem edgeR_len (m : Nat) (qs : List Req) : (upTo (edgeR m qs) qs.length).length = qs.length := by
  have : ∀ n, n ≤ qs.length → (upTo (edgeR m qs) n).length = n := by
    intro n
    induction n with
    | zero => intro _; rfl
    | succ n ih => intro h; rw [upTo, List.length_append, ih (by omega)]; unfold edgeR; rw [List.getElem?_eq_getElem (by omega)]; rfl
  exact this _ (Nat.le_refl _)

/-- The three parts of a flow of an audit's network. -/
theorem flow_parts {p : Prg} {l : List Att} {F : List Int} (ok : okF (netL p l) F) : ∃ F1 F2 F3, F = F1 ++ F2 ++ F3 ∧ F1.length = l.length ∧ F2.length = (pairsL p.reqs l).length ∧ okF (upTo (edgeA p.uses l) l.length) F1 ∧ okF ((pairsL p.reqs l).map (edgeP l)) F2 ∧ okF (upTo (edgeR l.length p.reqs) p.reqs.length) F3 ∧
    ∀ v, outF (netL p l) F v = outF (upTo (edgeA p.uses l) l.length) F1 v + outF ((pairsL p.reqs l).map (edgeP l)) F2 v + outF (upTo (edgeR l.length p.reqs) p.reqs.length) F3 v := by
  have hlen := okF_len ok
  unfold netL at ok hlen
  rw [List.length_append, List.length_append, edgeA_len, List.length_map, edgeR_len] at hlen
  have hF : F = F.take l.length ++ (F.drop l.length).take (pairsL p.reqs l).length ++ (F.drop l.length).drop (pairsL p.reqs l).length := by
    rw [List.append_assoc, List.take_append_drop, List.take_append_drop]
  obtain ⟨F1, hF1⟩ : ∃ F1, F1 = F.take l.length := ⟨_, rfl⟩
  obtain ⟨F2, hF2⟩ : ∃ F2, F2 = (F.drop l.length).take (pairsL p.reqs l).length := ⟨_, rfl⟩
  obtain ⟨F3, hF3⟩ : ∃ F3, F3 = (F.drop l.length).drop (pairsL p.reqs l).length := ⟨_, rfl⟩
  rw [← hF1, ← hF2, ← hF3] at hF
  have h1 : F1.length = l.length := by rw [hF1, List.length_take]; omega
  have h2 : F2.length = (pairsL p.reqs l).length := by rw [hF2, List.length_take, List.length_drop]; omega
  have e1 : F1.length = (upTo (edgeA p.uses l) l.length).length := by rw [edgeA_len]; exact h1
  have e2 : F2.length = ((pairsL p.reqs l).map (edgeP l)).length := by rw [List.length_map]; exact h2
  have e12 : (F1 ++ F2).length = (upTo (edgeA p.uses l) l.length ++ (pairsL p.reqs l).map (edgeP l)).length := by rw [List.length_append, List.length_append, e1, e2]
  rw [hF, okF_append e12, okF_append e1] at ok
  refine ⟨F1, F2, F3, hF, h1, h2, ok.1.1, ok.1.2, ok.2, fun v => ?_⟩
  rw [hF, netL, outF_append e12, outF_append e1]

theorem okF_nonneg {l : List Edge} {F : List Int} (h : okF l F) : ∀ x, x ∈ F → 0 ≤ x := fun x hx => by
  obtain ⟨i, hi⟩ := List.getElem?_of_mem hx
  have hl := okF_len h
  have := (List.getElem?_eq_some_iff.1 hi).1
  exact (okF_get h (List.getElem?_eq_getElem (by omega)) hi).1

/-- THE USES OF A FLOW ARE AN ASSIGNMENT. -/
theorem asg_of_flow {p : Prg} {l : List Att} {F : List Int} (ok : okF (netL p l) F) (cons : conserve (2 + l.length + p.reqs.length) 0 (1 + l.length + p.reqs.length) (netL p l) F) :
    asgB p.uses p.reqs l (usesL (pairsL p.reqs l) (F.drop l.length)) = true := by
  obtain ⟨F1, F2, F3, rfl, h1, h2, ok1, ok2, ok3, hout⟩ := flow_parts ok
  have hd : (F1 ++ F2 ++ F3).drop l.length = F2 ++ F3 := by rw [List.append_assoc, ← h1, List.drop_left]
  have hus : usesL (pairsL p.reqs l) (F2 ++ F3) = usesL (pairsL p.reqs l) F2 := by
    rw [← usesL_take, ← h2, List.take_left]
  rw [hd, hus]
  have hn2 := okF_nonneg ok2
  unfold asgB
  rw [Bool.and_eq_true, Bool.and_eq_true, List.all_eq_true, List.all_eq_true, List.all_eq_true]
  refine ⟨⟨fun j hj => ?_, fun i hi => ?_⟩, fun k hk => ?_⟩
  · rw [List.mem_range] at hj
    unfold stepB
    rw [List.getElem?_eq_getElem hj]
    simp only [Option.elim_some, Bool.and_eq_true, Bool.or_eq_true, decide_eq_true_eq]
    obtain ⟨m, x, hx, hg, ha, hr, hc⟩ := usesL_mem (List.getElem_mem hj)
    obtain ⟨y, z, r, hy, hr2, hz, he⟩ := pairsL_elig (List.mem_of_getElem? hx)
    obtain ⟨b1, b2, b3⟩ := pairsL_mem (List.mem_of_getElem? hx)
    have hf := okF_get ok2 (i := m) (by rw [List.getElem?_map, hx]; rfl) hg
    have hm : (edgeP l x).m = y.cr := by unfold edgeP; rw [hy]; rfl
    rw [hm] at hf
    refine ⟨?_, ?_⟩
    · unfold useB
      rw [ha, hr, hr2]
      simp only [Int.toNat_natCast, hy, hz, he, Option.elim_some, Bool.and_eq_true, decide_eq_true_eq]
      refine ⟨⟨⟨⟨⟨by omega, by omega⟩, by omega⟩, by omega⟩, by omega⟩, by omega, trivial⟩
    · rcases Nat.eq_zero_or_pos j with h0 | h0
      · exact .inl h0
      · right
        rw [List.getElem?_eq_getElem (by omega)]
        exact List.pairwise_iff_getElem.1 (usesL_pw (pairsL_pw p.reqs l)) (j - 1) j (by omega) hj (by omega)
  · rw [List.mem_range] at hi
    unfold capA
    rw [decide_eq_true_eq, List.getElem?_eq_getElem hi]
    have hc := cons (1 + i) (by omega) (by omega) (by omega)
    rw [hout] at hc
    have a1 := in_att (u := p.uses) (List.getElem?_eq_getElem hi) (Nat.le_refl _) ok1
    rw [if_pos hi] at a1
    have a2 := out_att hi (fun x hx => (pairsL_mem hx).2.1) hn2 h2
    have a3 := outF_none (v := ((1 + i : Nat) : Int)) F3 (l := upTo (edgeR l.length p.reqs) p.reqs.length) (fun e he => by obtain ⟨⟨k, hk, a⟩, b⟩ := mem_edgeR he; omega)
    rw [show ((1 + i : Nat) : Int) = 1 + i by omega] at hc a3
    show _ ≤ l[i].cr * p.uses
    omega
  · rw [List.mem_range] at hk
    unfold capQ
    rw [decide_eq_true_eq, List.getElem?_eq_getElem hk]
    have hc := cons (1 + l.length + k) (by omega) (by omega) (by omega)
    rw [hout] at hc
    have a1 := outF_none (v := ((1 + l.length + k : Nat) : Int)) F1 (l := upTo (edgeA p.uses l) l.length) (fun e he => by obtain ⟨a, i, hi, b⟩ := mem_edgeA he; omega)
    have a2 := out_req (k := k) (fun x hx => (pairsL_mem hx).1) hn2 h2
    have a3 := out_R (m := l.length) (List.getElem?_eq_getElem hk) (Nat.le_refl _) ok3
    rw [if_pos hk] at a3
    rw [show ((1 + l.length + k : Nat) : Int) = 1 + l.length + k by omega] at hc a1
    show _ ≤ p.reqs[k].cr
    omega

/-- What the uses of a flow count is its value. -/
theorem used_value {p : Prg} {l : List Att} {F : List Int} (ok : okF (netL p l) F) (cons : conserve (2 + l.length + p.reqs.length) 0 (1 + l.length + p.reqs.length) (netL p l) F) :
    usedC (usesL (pairsL p.reqs l) (F.drop l.length)) = outF (netL p l) F 0 := by
  rw [value_mid ok cons]
  obtain ⟨F1, F2, F3, rfl, h1, h2, ok1, ok2, ok3, hout⟩ := flow_parts ok
  have hd : (F1 ++ F2 ++ F3).drop l.length = F2 ++ F3 := by rw [List.append_assoc, ← h1, List.drop_left]
  have hus : usesL (pairsL p.reqs l) (F2 ++ F3) = usesL (pairsL p.reqs l) F2 := by rw [← usesL_take, ← h2, List.take_left]
  unfold midF
  rw [hd, hus, ← h2, List.take_left]
  exact usesL_sum h2 (okF_nonneg ok2)
end Go.Proofs.YtaiibchadlaifaaGreatDoor

namespace Go.Proofs.YtaiibchadlaifaaGreatDoor
open Go.RowKit Go.Shelf
attribute [local go_sem] Oper.semAt_some

set_option maxRecDepth 100000 in
theorem facts_of_c (a b c k : Int) (w : World) :
    Calls Tryz.prog 154 #[.slice none 0 0, .agg #[.int .i64 a, .int .i64 b, .int .i64 c], .int .i64 k] w fun e w' => e = .returned (.func (.func 188) #[] #[.pointer (some ⟨w.heap.size, 0, none⟩), .pointer (some ⟨w.heap.size + 1, 0, none⟩), .pointer (some ⟨w.heap.size + 1 + 1, 0, none⟩)]) ∧ w'.cell? ⟨w.heap.size, 0, none⟩ = some (.slice none 0 0) ∧ w.heap.size + 1 + 1 < w'.heap.size ∧ Below w.heap.size w w' := by
  go_enter Tryz.func154, Tryz.ntmps154
  go_wp2
  go_ret
  exact ⟨rfl, by rw [blk_cell (alloc3_blk0 w _ _ _)]; rfl, by rw [alloc3_size]; omega, below3 _ _ _ _⟩

set_option maxRecDepth 100000 in
theorem facts_of_stops (n : Nat) (hn : 1 ≤ n) (B0 B1 B2 n₀ : Nat) (w : World) (hB0 : B0 < w.heap.size) (hc : w.cell? ⟨B0, 0, none⟩ = some (.slice none 0 0)) :
    SeqStopsK F0 n Tryz.prog 188 #[.pointer (some ⟨B0, 0, none⟩), .pointer (some ⟨B1, 0, none⟩), .pointer (some ⟨B2, 0, none⟩)] (fun x : Empty => #[.int .i64 0]) (Below n₀) (fun ys => ys = []) (fun pre => pre = []) 0 w := fun l J Jx W hW hJ hJx hY h0 => by
  have hc' : W.cell? ⟨B0, 0, none⟩ = some (.slice none 0 0) := (hW.cell (p := ⟨B0, 0, none⟩) hB0).trans hc
  clear hY hJ hJx hc hW
  refine callsIn_of_wp Tryz.func188 rfl trivial ?_ rfl
  simp only [Tryz.ntmps188, List.size_toArray, List.length_cons, List.length_nil, Nat.reduceAdd, Nat.reduceSub, Array.replicate_succ, Array.replicate_zero, List.push_toArray, List.append_toArray, List.nil_append, List.cons_append]
  gi_wp2
  gi_loopw [6, 9] (fun _ i wr => wr = W ∧ i = .int .i64 0) (fun _ _ _ => 0)
  case atStart => exact ⟨rfl, rfl⟩
  case round =>
    obtain ⟨rfl, rfl⟩ := hrel
    gi_wp2
    go_end0
    exact ⟨⟨_, rfl⟩, .inl ⟨_, rfl, h0⟩⟩

set_option maxRecDepth 100000 in
set_option maxHeartbeats 4000000 in
theorem facts_At_c (a b c t k : Int) (w : World) :
    Calls Tryz.prog 106 #[.slice none 0 0, .agg #[.int .i64 a, .int .i64 b, .int .i64 c], .int .i64 t, .int .i64 k] w fun e w' => e = .returned (.tuple #[.int .i64 0, .bool false]) ∧ Below w.heap.size w w' := by
  have hof := fun W => facts_of_c a b c k W
  refine (callsIn_wide (n := 10)).1 ?_
  refine callsIn_of_wp_marks Tryz.func106 rfl trivial ?_ rfl
  simp only [Tryz.ntmps106, List.size_toArray, List.length_cons, List.length_nil, Nat.reduceAdd, Nat.reduceSub, Array.replicate_succ, Array.replicate_zero, List.push_toArray, List.append_toArray, List.nil_append, List.cons_append]
  gi_wp2_with fail
  refine ⟨trivial, ?_⟩
  refine (callsIn_wide.2 (hof _)).mono ?_
  obtain ⟨w4, hw4⟩ : ∃ w4, w4 = (((w.alloc (.cells #[.int .i64 a, .int .i64 b, .int .i64 c] 119)).alloc (.cells #[.int .i64 t] 3)).alloc (.cells #[.int .i64 0, .int .i64 0, .int .i64 0, .int .i64 0, .int .i64 0, .int .i64 0, .int .i64 0, .int .i64 0] 207)).alloc (.cells #[.bool false] 4) := ⟨_, rfl⟩
  have hb4 : Below w.heap.size w w4 := by rw [hw4]; exact (below3 w _ _ _).alloc (by rw [alloc3_size]; omega) _
  have hs4 : w4.heap.size = w.heap.size + 1 + 1 + 1 + 1 := by rw [hw4]; simp
  have hc4 : w4.cell? ⟨w.heap.size + 1 + 1 + 1, 0, none⟩ = some (.bool false) := by rw [hw4, show w.heap.size + 1 + 1 + 1 = (((w.alloc (.cells #[.int .i64 a, .int .i64 b, .int .i64 c] 119)).alloc (.cells #[.int .i64 t] 3)).alloc (.cells #[.int .i64 0, .int .i64 0, .int .i64 0, .int .i64 0, .int .i64 0, .int .i64 0, .int .i64 0, .int .i64 0] 207)).heap.size by simp, blk_cell (World.alloc_heap_new _ _)]; rfl
  rw [← hw4]
  clear hw4
  rintro e w5 ⟨rfl, hc5, hs5, hb5⟩
  have hf5 : w5.cell? ⟨w.heap.size + 1 + 1 + 1, 0, none⟩ = some (.bool false) := (hb5.cell (p := ⟨w.heap.size + 1 + 1 + 1, 0, none⟩) (by simp; omega)).trans hc4
  have hB5 := bthen hb4 hb5
  clear hb4 hb5 hc4
  rw [hs4] at hc5 hs5
  gi_wp2_with fail
  refine wpIn_rangeFunc_ownF rfl (by omega) (gf := 188) (lb := #[.pointer (some ⟨w.heap.size + 1 + 1 + 1 + 1, 0, none⟩), .pointer (some ⟨w.heap.size + 1 + 1 + 1 + 1 + 1, 0, none⟩), .pointer (some ⟨w.heap.size + 1 + 1 + 1 + 1 + 1 + 1, 0, none⟩)]) rfl trivial (enters_of Tryz.func188 (by kernel_rfl) rfl)
    (facts_of_stops 9 (by omega) (w.heap.size + 1 + 1 + 1 + 1) _ _ w.heap.size w5 (by omega) hc5) belowK_t (belowK_b (by omega)) (Below.refl _ _) (fun _ => rfl)
    (fun pre W => W.cell? ⟨w.heap.size + 1 + 1 + 1, 0, none⟩ = some (.bool false) ∧ Below w.heap.size w W)
    (fun _ _ _ => False)
    (OwnFrom.and (Own.from (fun s A B row hs hg hr => cell_kept hs hg hr) _) (ownFrom_below (Nat.le_refl _) (by omega)))
    (fun _ _ _ _ _ hs _ _ => hs)
    ⟨hf5, hB5⟩
    (fun x => nomatch x) ?assign ?body ?done ?stop
  case assign => intro l x; exact nomatch x
  case body => rintro l pre x; exact nomatch x
  case stop =>
    rintro D c pre W _ _ h _
    exact h.elim
  case done =>
    rintro D ys W hD _ ⟨c0, hBW⟩ hK
    gi_wp2
    refine ⟨by simp, .inl ⟨_, _, rfl, run_takeDeferred hK, ?_⟩⟩
    exact ⟨.tuple #[.int .i64 0, .bool false], by simp [results, Tryz.results106, go_sem], rfl, hBW.trans (belowK_b (w := w) (Nat.le_refl _) W D _ _ (by omega) hK rfl rfl)⟩

theorem book_in_c (n a b : Int) (w : World) :
    Calls Tryz.prog 104 #[.int .i64 n, .int .i64 a, .int .i64 b] w fun e w' => e = .returned (.bool (decide (a ≤ n ∧ n ≤ b))) ∧ w' = w := by
  go_enter Tryz.func104, Tryz.ntmps104
  by_cases h1 : a ≤ n <;> by_cases h2 : n ≤ b
  all_goals
    go_wp2
    go_ret
    simp [h1, h2]

theorem set7 {w : World} {b : Nat} {u0 u1 u2 u3 u4 u5 u6 : Value} {T : TypeId} (h : w.heap[b]? = some (.cells #[u0, u1, u2, u3, u4, u5, u6] T (0, 0))) (v0 v1 v2 v3 v4 v5 v6 : Value) : ∃ W, W = ((((((w.setCell ⟨b, 0, none⟩ v0).setCell ⟨b, 1, none⟩ v1).setCell ⟨b, 2, none⟩ v2).setCell ⟨b, 3, none⟩ v3).setCell ⟨b, 4, none⟩ v4).setCell ⟨b, 5, none⟩ v5).setCell ⟨b, 6, none⟩ v6 ∧
    W.heap[b]? = some (.cells #[v0, v1, v2, v3, v4, v5, v6] T (0, 0)) ∧ (∀ k, k ≠ b → W.heap[k]? = w.heap[k]?) ∧ ∀ n u, n ≤ b → Below n u w → Below n u W := by
  refine ⟨_, rfl, ?_, fun k hk => ?_, fun n u hn hb => ((((((hb.setCell (p := ⟨b, 0, none⟩) hn _).setCell (p := ⟨b, 1, none⟩) hn _).setCell (p := ⟨b, 2, none⟩) hn _).setCell (p := ⟨b, 3, none⟩) hn _).setCell (p := ⟨b, 4, none⟩) hn _).setCell (p := ⟨b, 5, none⟩) hn _).setCell (p := ⟨b, 6, none⟩) hn _⟩
  · have h0 := heap_setCell_same w b 0 _ _ v0 h
    have h1 := heap_setCell_same _ b 1 _ _ v1 h0
    have h2 := heap_setCell_same _ b 2 _ _ v2 h1
    have h3 := heap_setCell_same _ b 3 _ _ v3 h2
    have h4 := heap_setCell_same _ b 4 _ _ v4 h3
    have h5 := heap_setCell_same _ b 5 _ _ v5 h4
    have h6 := heap_setCell_same _ b 6 _ _ v6 h5
    rw [h6]
    simp
  · rw [Below.heap_setCell _ ⟨b, 6, none⟩ _ k hk, Below.heap_setCell _ ⟨b, 5, none⟩ _ k hk, Below.heap_setCell _ ⟨b, 4, none⟩ _ k hk, Below.heap_setCell _ ⟨b, 3, none⟩ _ k hk, Below.heap_setCell _ ⟨b, 2, none⟩ _ k hk, Below.heap_setCell _ ⟨b, 1, none⟩ _ k hk, Below.heap_setCell _ ⟨b, 0, none⟩ _ k hk]

theorem alloc4_size (w : World) (a b c d : Obj) : ((((w.alloc a).alloc b).alloc c).alloc d).heap.size = w.heap.size + 1 + 1 + 1 + 1 := by simp
theorem alloc4_blk2 (w : World) (a b c d : Obj) : ((((w.alloc a).alloc b).alloc c).alloc d).heap[w.heap.size + 1 + 1]? = some c := (Below.heap_alloc _ _ _ (by rw [alloc3_size]; omega)).trans (alloc3_blk2 w a b c)
theorem alloc4_blk3 (w : World) (a b c d : Obj) : ((((w.alloc a).alloc b).alloc c).alloc d).heap[w.heap.size + 1 + 1 + 1]? = some d := by have := World.alloc_heap_new (((w.alloc a).alloc b).alloc c) d; rwa [alloc3_size] at this

set_option maxRecDepth 100000 in
set_option maxHeartbeats 4000000 in
theorem book_look_c (k : Int) (fv : Value) (known : Int) (w : World) :
    Calls Tryz.prog 99 #[.agg #[.slice none 0 0, .slice none 0 0, .slice none 0 0, .slice none 0 0], .slice none 0 0, .agg #[.int .i64 k, .int .i64 0, .int .i64 0], .int .i64 0, .int .i64 known, fv] w fun e w' => ∃ R, e = .returned (.tuple #[.agg #[.string ⟨#[]⟩, .int .i64 0, .int .i64 0, .int .i64 0, .int .i64 0, .int .i64 0, .slice none 0 0], .slice (some ⟨R, 0, none⟩) 1 1, .bool false]) ∧ w.heap.size ≤ R ∧ w'.heap[R]? = some (.cells #[.int .i64 k, .int .i64 0, .int .i64 0, .int .i64 0, .int .i64 1] 121 (0, 0)) ∧ Below w.heap.size w w' := by
  have hin := fun W => book_in_c 0 0 1023 W
  have hat := fun W => facts_At_c k 0 0 0 known W
  go_enter Tryz.func99, Tryz.ntmps99
  go_wp2_with (first
      | (go_at_call 104; refine (hin _).mono ?_; rintro e w1 ⟨rfl, rfl⟩)
      | (go_at_call 106; refine (hat _).mono ?_; refine stopHere ?_))
  unfold Stopped
  have hP := alloc4_blk2 w (.cells #[.slice none 0 0, .slice none 0 0, .slice none 0 0, .slice none 0 0] 56) (.cells #[.int .i64 k, .int .i64 0, .int .i64 0] 119) (.cells #[.string ⟨#[]⟩, .int .i64 0, .int .i64 0, .int .i64 0, .int .i64 0, .int .i64 0, .slice none 0 0] 26) (.cells #[.int .i64 k, .int .i64 0, .int .i64 0, .int .i64 0, .int .i64 1] 121)
  have hR := alloc4_blk3 w (.cells #[.slice none 0 0, .slice none 0 0, .slice none 0 0, .slice none 0 0] 56) (.cells #[.int .i64 k, .int .i64 0, .int .i64 0] 119) (.cells #[.string ⟨#[]⟩, .int .i64 0, .int .i64 0, .int .i64 0, .int .i64 0, .int .i64 0, .slice none 0 0] 26) (.cells #[.int .i64 k, .int .i64 0, .int .i64 0, .int .i64 0, .int .i64 1] 121)
  have hs := alloc4_size w (.cells #[.slice none 0 0, .slice none 0 0, .slice none 0 0, .slice none 0 0] 56) (.cells #[.int .i64 k, .int .i64 0, .int .i64 0] 119) (.cells #[.string ⟨#[]⟩, .int .i64 0, .int .i64 0, .int .i64 0, .int .i64 0, .int .i64 0, .slice none 0 0] 26) (.cells #[.int .i64 k, .int .i64 0, .int .i64 0, .int .i64 0, .int .i64 1] 121)
  have hB : Below w.heap.size w ((((w.alloc (.cells #[.slice none 0 0, .slice none 0 0, .slice none 0 0, .slice none 0 0] 56)).alloc (.cells #[.int .i64 k, .int .i64 0, .int .i64 0] 119)).alloc (.cells #[.string ⟨#[]⟩, .int .i64 0, .int .i64 0, .int .i64 0, .int .i64 0, .int .i64 0, .slice none 0 0] 26)).alloc (.cells #[.int .i64 k, .int .i64 0, .int .i64 0, .int .i64 0, .int .i64 1] 121)) := (below3 w _ _ _).alloc (by rw [alloc3_size]; omega) _
  generalize (((w.alloc _).alloc _).alloc _).alloc _ = w4 at *
  rintro e w5 ⟨rfl, hb5⟩
  have hP5 := (hb5.block _ (by omega)).trans hP
  have hR5 := (hb5.block _ (by omega)).trans hR
  have hB5 := bthen hB hb5
  have cP := blk_cell hP5
  have fP := blk_frozen hP5
  have hz5 := (Array.getElem?_eq_some_iff.1 hP5).1
  clear hP hR hb5 hB hs
  go_wp2
  obtain ⟨W, hW, hWb, hWk, hWB⟩ := set7 hP5 (.string ⟨#[]⟩) (.int .i64 0) (.int .i64 0) (.int .i64 0) (.int .i64 0) (.int .i64 0) (.slice none 0 0)
  rw [← hW]
  have c0 := blk_cell hWb
  exact bodyPost_ret (v := .tuple #[.agg #[.string ⟨#[]⟩, .int .i64 0, .int .i64 0, .int .i64 0, .int .i64 0, .int .i64 0, .slice none 0 0], .slice (some ⟨w.heap.size + 1 + 1 + 1, 0, none⟩) 1 1, .bool false]) (by simp [results, Tryz.results99, go_sem, c0]) rfl ⟨_, rfl, by omega, (hWk _ (by omega)).trans hR5, hWB _ _ (by omega) hB5⟩

set_option maxRecDepth 100000 in
set_option maxHeartbeats 4000000 in
theorem book_Programme_c (w : World) :
    Calls Tryz.prog 53 #[.agg #[.slice none 0 0, .slice none 0 0, .slice none 0 0, .slice none 0 0], .int .i64 0, .int .i64 0, .int .i64 0] w fun e w' => ∃ R, e = .returned (.tuple #[.agg #[.string ⟨#[]⟩, .int .i64 0, .int .i64 0, .int .i64 0, .int .i64 0, .int .i64 0, .slice none 0 0], .slice (some ⟨R, 0, none⟩) 1 1, .bool false]) ∧ w.heap.size ≤ R ∧ w'.heap[R]? = some (.cells #[.int .i64 3, .int .i64 0, .int .i64 0, .int .i64 0, .int .i64 1] 121 (0, 0)) ∧ Below w.heap.size w w' := by
  have hlk := fun fv W => book_look_c 3 fv 0 W
  go_enter Tryz.func53, Tryz.ntmps53
  go_wp2_with (go_at_call 99; refine (hlk _ _).mono ?_; refine stopHere ?_)
  unfold Stopped
  have hP := alloc3_blk2 w (.cells #[.slice none 0 0, .slice none 0 0, .slice none 0 0, .slice none 0 0] 56) (.cells #[.int .i64 0] 3) (.cells #[.string ⟨#[]⟩, .int .i64 0, .int .i64 0, .int .i64 0, .int .i64 0, .int .i64 0, .slice none 0 0] 26)
  have hs := alloc3_size w (.cells #[.slice none 0 0, .slice none 0 0, .slice none 0 0, .slice none 0 0] 56) (.cells #[.int .i64 0] 3) (.cells #[.string ⟨#[]⟩, .int .i64 0, .int .i64 0, .int .i64 0, .int .i64 0, .int .i64 0, .slice none 0 0] 26)
  have hB := below3 w (.cells #[.slice none 0 0, .slice none 0 0, .slice none 0 0, .slice none 0 0] 56) (.cells #[.int .i64 0] 3) (.cells #[.string ⟨#[]⟩, .int .i64 0, .int .i64 0, .int .i64 0, .int .i64 0, .int .i64 0, .slice none 0 0] 26)
  generalize ((w.alloc _).alloc _).alloc _ = w4 at *
  rintro e w5 ⟨R, rfl, gR, hR5, hb5⟩
  have hP5 := (hb5.block _ (by omega)).trans hP
  have hB5 := bthen hB hb5
  have cP := blk_cell hP5
  have fP := blk_frozen hP5
  have hz5 := (Array.getElem?_eq_some_iff.1 hP5).1
  rw [hs] at gR
  clear hP hb5 hB hs
  go_wp2
  obtain ⟨W, hW, hWb, hWk, hWB⟩ := set7 hP5 (.string ⟨#[]⟩) (.int .i64 0) (.int .i64 0) (.int .i64 0) (.int .i64 0) (.int .i64 0) (.slice none 0 0)
  rw [← hW]
  have c0 := blk_cell hWb
  exact bodyPost_ret (v := .tuple #[.agg #[.string ⟨#[]⟩, .int .i64 0, .int .i64 0, .int .i64 0, .int .i64 0, .int .i64 0, .slice none 0 0], .slice (some ⟨R, 0, none⟩) 1 1, .bool false]) (by simp [results, Tryz.results53, go_sem, c0]) rfl ⟨_, rfl, by omega, (hWk _ (by omega)).trans hR5, hWB _ _ (by omega) hB5⟩
theorem read_len (x : Read) : x.enc.length = 5 := rfl
theorem read_one (x : Read) : ∀ u ∈ x.enc, u.oneCell' = true := by
  intro u hu
  simp only [Read.enc, List.mem_cons, List.not_mem_nil, or_false] at hu
  rcases hu with rfl | rfl | rfl | rfl | rfl <;> rfl
theorem read_info : (Tryz.prog.info? 121).map (fun i => (i.zero, i.size, i.bytes)) = some (some (.agg #[.int .i64 0, .int .i64 0, .int .i64 0, .int .i64 0, .int .i64 0]), 5, 40) := by kernel_rfl

set_option maxRecDepth 100000 in
set_option maxHeartbeats 4000000 in
theorem of_look_c (w : World) (b R : Nat) (x : Read) (hc : w.cell? ⟨b, 0, none⟩ = some (.slice none 0 0)) (hf : w.frozen? ⟨b, 0, none⟩ = false) (hb : b < w.heap.size) (hR : w.heap[R]? = some (.cells x.enc.toArray 121 (0, 0))) :
    Calls Tryz.prog 52 #[.slice (some ⟨R, 0, none⟩) 1 1, .pointer (some ⟨b, 0, none⟩)] w fun e w' => (∃ v, e = .returned v) ∧ ∃ w1 A c, Below w.heap.size w w1 ∧ w' = w1.setCell ⟨b, 0, none⟩ (.slice A 1 c) := by
  have cR := blk_cell hR
  go_enter Tryz.func52, Tryz.ntmps52
  go_wp2_with (at_builtin; refine stopHere ?_)
  unfold Stopped
  refine wpList_append1 rfl _ _ 58 rfl 121 (.agg #[.int .i64 0, .int .i64 0, .int .i64 0, .int .i64 0, .int .i64 0]) 40 Tryz.underlying58 read_info rfl (by decide) read_len read_one w.heap.size (.slice none 0 0) [] rfl (OwnF.nil _ _ _ _ _) R x rfl ?c2 (by simp) (by decide) (Nat.le_refl _) ?_
  case c2 => intro j u hj; rw [cR]; simpa using hj
  rintro v' w1 hown hsz hB hg ⟨A1, c1, rfl⟩
  have hb1 := hB w.heap.size _ (Nat.le_refl _) (Below.refl _ _)
  have hc1 := (hb1.cell (p := ⟨b, 0, none⟩) hb).trans hc
  have hf1 := (hb1.frozen (p := ⟨b, 0, none⟩) hb).trans hf
  go_wp2
  go_end0
  exact ⟨⟨_, rfl⟩, w1, A1, c1, hb1, rfl⟩
end Go.Proofs.YtaiibchadlaifaaGreatDoor

namespace Go.Proofs.YtaiibchadlaifaaGreatDoor
open Go.RowKit Go.Shelf
attribute [local go_sem] Oper.semAt_some

theorem alloc5_size (w : World) (a b c d e : Obj) : (((((w.alloc a).alloc b).alloc c).alloc d).alloc e).heap.size = w.heap.size + 1 + 1 + 1 + 1 + 1 := by simp
theorem alloc5_blk (w : World) (a b c d e : Obj) : (((((w.alloc a).alloc b).alloc c).alloc d).alloc e).heap[w.heap.size + 1]? = some b ∧ (((((w.alloc a).alloc b).alloc c).alloc d).alloc e).heap[w.heap.size + 1 + 1]? = some c ∧ (((((w.alloc a).alloc b).alloc c).alloc d).alloc e).heap[w.heap.size + 1 + 1 + 1]? = some d ∧ (((((w.alloc a).alloc b).alloc c).alloc d).alloc e).heap[w.heap.size + 1 + 1 + 1 + 1]? = some e ∧ Below w.heap.size w (((((w.alloc a).alloc b).alloc c).alloc d).alloc e) := by
  refine ⟨(Below.heap_alloc _ _ _ (by rw [alloc4_size]; omega)).trans ((Below.heap_alloc _ _ _ (by rw [alloc3_size]; omega)).trans (alloc3_blk1 w a b c)), (Below.heap_alloc _ _ _ (by rw [alloc4_size]; omega)).trans (alloc4_blk2 w a b c d), (Below.heap_alloc _ _ _ (by rw [alloc4_size]; omega)).trans (alloc4_blk3 w a b c d), ?_, ((below3 w a b c).alloc (by rw [alloc3_size]; omega) _).alloc (by rw [alloc4_size]; omega) _⟩
  have := World.alloc_heap_new ((((w.alloc a).alloc b).alloc c).alloc d) e
  rwa [alloc4_size] at this

theorem of1_idle (n : Nat) (a b c d : Addr) (w : World) : CallsDIn Fence.wide n Tryz.prog 51 #[.pointer (some a), .pointer (some b), .pointer (some c), .pointer (some d)] .returning w fun r u' w' => (∃ v, r = .returned v) ∧ u' = .returning ∧ w' = w := by
  refine callsDIn_of_wpSIn Tryz.func51 rfl trivial fun c₀ cs hu => ?_
  refine wpSIn_of_wpS ?_
  apply wpS_seq
  apply wpS_region
  simp [wpOpsS, go_sem, recoverD, hu, Tryz.ntmps51, Exit.thenS]
  refine wpS_of_wp ?_
  go_wp2
  cases c₀
  simp_all [bodyPostS, results, Tryz.results51]

set_option maxRecDepth 100000 in
set_option maxHeartbeats 8000000 in
theorem degree_Of_c (w : World) :
    Calls Tryz.prog 25 #[.agg #[.slice none 0 0, .slice none 0 0, .slice none 0 0, .slice none 0 0], .int .i64 0, .int .i64 0, .int .i64 0, .int .i64 0] w fun e w' => (∃ v, e = .returned (.tuple #[.agg #[.slice none 0 0, .int .i64 0, .slice none 0 0], .bool false, v, .int .i64 0])) ∧ Below w.heap.size w w' := by
  have hpr := fun W => book_Programme_c W
  have hmf : ∀ (fn : Fn) (first cap : Array Value) (w : World), (Instr.makeFunc fn first cap).run Tryz.prog w = .ok (.func fn first cap) w := fun _ _ _ _ => rfl
  refine (callsIn_wide (n := 10)).1 ?_
  refine callsIn_of_wp_marks Tryz.func25 rfl trivial ?_ rfl
  simp only [Tryz.ntmps25, List.size_toArray, List.length_cons, List.length_nil, Nat.reduceAdd, Nat.reduceSub, Array.replicate_succ, Array.replicate_zero, List.push_toArray, List.append_toArray, List.nil_append, List.cons_append]
  gi_wp2_with fail
  refine ⟨trivial, ?_⟩
  refine (callsIn_wide.2 (hpr _)).mono ?_
  have hs := alloc5_size w (.cells #[.slice none 0 0, .slice none 0 0, .slice none 0 0, .slice none 0 0] 56) (.cells #[.slice none 0 0, .int .i64 0, .slice none 0 0] 45) (.cells #[.bool false] 4) (.cells #[.slice none 0 0] 58) (.cells #[.int .i64 0] 31)
  obtain ⟨k1, k2, k3, k4, hB⟩ := alloc5_blk w (.cells #[.slice none 0 0, .slice none 0 0, .slice none 0 0, .slice none 0 0] 56) (.cells #[.slice none 0 0, .int .i64 0, .slice none 0 0] 45) (.cells #[.bool false] 4) (.cells #[.slice none 0 0] 58) (.cells #[.int .i64 0] 31)
  generalize ((((w.alloc _).alloc _).alloc _).alloc _).alloc _ = w4 at *
  rintro e w5 ⟨R, rfl, gR, hR5, hb5⟩
  have k1' := (hb5.block _ (by omega)).trans k1
  have k2' := (hb5.block _ (by omega)).trans k2
  have k3' := (hb5.block _ (by omega)).trans k3
  have k4' := (hb5.block _ (by omega)).trans k4
  have hB5 := bthen hB hb5
  have hz5 := (Array.getElem?_eq_some_iff.1 k4').1
  have hzR := (Array.getElem?_eq_some_iff.1 hR5).1
  have hlk := fun W (h1 : Below w5.heap.size w5 W) => of_look_c W (w.heap.size + 1 + 1 + 1) R ⟨3, 0, 0, 0, 1⟩ (by rw [blk_cell ((h1.block _ (by omega)).trans k3')]; rfl) (blk_frozen ((h1.block _ (by omega)).trans k3') 0) (by have := h1.size; omega) ((h1.block _ (by omega)).trans hR5)
  clear k1 k2 k3 k4 hb5 hpr
  gi_wp2_with fail
  refine ⟨trivial, ?_⟩
  refine (callsIn_wide.2 (hlk _ (below1 _ _))).mono ?_
  rintro e w6 ⟨⟨v, rfl⟩, w7, A, c, hb7, rfl⟩
  have hb57 : Below w5.heap.size w5 w7 := bthen (below1 w5 _) hb7
  have m1 := (Below.heap_setCell w7 ⟨w.heap.size + 1 + 1 + 1, 0, none⟩ (.slice A 1 c) (w.heap.size + 1) (by simp)).trans ((hb57.block _ (by omega)).trans k1')
  have m2 := (Below.heap_setCell w7 ⟨w.heap.size + 1 + 1 + 1, 0, none⟩ (.slice A 1 c) (w.heap.size + 1 + 1) (by simp)).trans ((hb57.block _ (by omega)).trans k2')
  have m3 := heap_setCell_same w7 (w.heap.size + 1 + 1 + 1) 0 _ _ (.slice A 1 c) ((hb57.block _ (by omega)).trans k3')
  have m4 := (Below.heap_setCell w7 ⟨w.heap.size + 1 + 1 + 1, 0, none⟩ (.slice A 1 c) (w.heap.size + 1 + 1 + 1 + 1) (by simp)).trans ((hb57.block _ (by omega)).trans k4')
  have hB8 : Below w.heap.size w (w7.setCell ⟨w.heap.size + 1 + 1 + 1, 0, none⟩ (.slice A 1 c)) := (bthen hB5 hb57).setCell (p := ⟨w.heap.size + 1 + 1 + 1, 0, none⟩) (by simp; omega) _
  clear hb7 hb57 k1' k2' k3' k4' hlk
  generalize w7.setCell ⟨w.heap.size + 1 + 1 + 1, 0, none⟩ (.slice A 1 c) = w8 at *
  have c10 := blk_cell m1 0
  have c11 := blk_cell m1 1
  have c12 := blk_cell m1 2
  have c20 := blk_cell m2 0
  have c30 := blk_cell m3 0
  have c40 := blk_cell m4 0
  have f1 := blk_frozen m1
  have f2 := blk_frozen m2 0
  have f3 := blk_frozen m3 0
  have f4 := blk_frozen m4 0
  have hz8 := (Array.getElem?_eq_some_iff.1 m4).1
  gi_wp2_with fail
  gi_region
  gi_wp2
  have n1 := heap_setCell_same w8 (w.heap.size + 1) 0 _ _ (.slice none 0 0) m1
  have n2 := heap_setCell_same _ (w.heap.size + 1) 1 _ _ (.int .i64 0) n1
  have n3 := heap_setCell_same _ (w.heap.size + 1) 2 _ _ (.slice none 0 0) n2
  obtain ⟨w9, hw9⟩ : ∃ w9, w9 = ((w8.setCell ⟨w.heap.size + 1, 0, none⟩ (.slice none 0 0)).setCell ⟨w.heap.size + 1, 1, none⟩ (.int .i64 0)).setCell ⟨w.heap.size + 1, 2, none⟩ (.slice none 0 0) := ⟨_, rfl⟩
  have hk9 : ∀ b, b ≠ w.heap.size + 1 → w9.heap[b]? = w8.heap[b]? := fun b hb => by rw [hw9, Below.heap_setCell _ ⟨w.heap.size + 1, 2, none⟩ _ b hb, Below.heap_setCell _ ⟨w.heap.size + 1, 1, none⟩ _ b hb, Below.heap_setCell _ ⟨w.heap.size + 1, 0, none⟩ _ b hb]
  have hB9 : Below w.heap.size w w9 := by rw [hw9]; exact ((hB8.setCell (p := ⟨w.heap.size + 1, 0, none⟩) (by simp <;> omega) _).setCell (p := ⟨w.heap.size + 1, 1, none⟩) (by simp <;> omega) _).setCell (p := ⟨w.heap.size + 1, 2, none⟩) (by simp <;> omega) _
  rw [← hw9] at n3 ⊢
  clear hw9 n1 n2
  have p2 := (hk9 (w.heap.size + 1 + 1) (by omega)).trans m2
  have p3 := (hk9 (w.heap.size + 1 + 1 + 1) (by omega)).trans m3
  have p4 := (hk9 (w.heap.size + 1 + 1 + 1 + 1) (by omega)).trans m4
  have q2 := heap_setCell_same w9 (w.heap.size + 1 + 1) 0 _ _ (.bool false) p2
  have q3 := heap_setCell_same _ (w.heap.size + 1 + 1 + 1) 0 _ _ (.slice A 1 c) ((Below.heap_setCell w9 ⟨w.heap.size + 1 + 1, 0, none⟩ (.bool false) (w.heap.size + 1 + 1 + 1) (by simp <;> omega)).trans p3)
  have q4 := heap_setCell_same _ (w.heap.size + 1 + 1 + 1 + 1) 0 _ _ (.int .i64 0) ((Below.heap_setCell _ ⟨w.heap.size + 1 + 1 + 1, 0, none⟩ (.slice A 1 c) (w.heap.size + 1 + 1 + 1 + 1) (by simp <;> omega)).trans ((Below.heap_setCell w9 ⟨w.heap.size + 1 + 1, 0, none⟩ (.bool false) (w.heap.size + 1 + 1 + 1 + 1) (by simp <;> omega)).trans p4))
  obtain ⟨W, hW⟩ : ∃ W, W = (((w9.setCell ⟨w.heap.size + 1 + 1, 0, none⟩ (.bool false)).setCell ⟨w.heap.size + 1 + 1 + 1, 0, none⟩ (.slice A 1 c)).setCell ⟨w.heap.size + 1 + 1 + 1 + 1, 0, none⟩ (.int .i64 0)).drew := ⟨_, rfl⟩
  have hr : ∀ b : Nat, W.heap[b]? = (((w9.setCell ⟨w.heap.size + 1 + 1, 0, none⟩ (.bool false)).setCell ⟨w.heap.size + 1 + 1 + 1, 0, none⟩ (.slice A 1 c)).setCell ⟨w.heap.size + 1 + 1 + 1 + 1, 0, none⟩ (.int .i64 0)).heap[b]? := fun b => by rw [hW]; rfl
  have r4 := (hr _).trans (q4)
  have r3 := (hr _).trans ((Below.heap_setCell _ ⟨w.heap.size + 1 + 1 + 1 + 1, 0, none⟩ (.int .i64 0) (w.heap.size + 1 + 1 + 1) (by simp <;> omega)).trans q3)
  have r2 := (hr _).trans ((Below.heap_setCell _ ⟨w.heap.size + 1 + 1 + 1 + 1, 0, none⟩ (.int .i64 0) (w.heap.size + 1 + 1) (by simp <;> omega)).trans ((Below.heap_setCell _ ⟨w.heap.size + 1 + 1 + 1, 0, none⟩ (.slice A 1 c) (w.heap.size + 1 + 1) (by simp <;> omega)).trans q2))
  have r1 := (hr _).trans ((Below.heap_setCell _ ⟨w.heap.size + 1 + 1 + 1 + 1, 0, none⟩ (.int .i64 0) (w.heap.size + 1) (by simp <;> omega)).trans ((Below.heap_setCell _ ⟨w.heap.size + 1 + 1 + 1, 0, none⟩ (.slice A 1 c) (w.heap.size + 1) (by simp <;> omega)).trans ((Below.heap_setCell _ ⟨w.heap.size + 1 + 1, 0, none⟩ (.bool false) (w.heap.size + 1) (by simp <;> omega)).trans n3)))
  have hBW : Below w.heap.size w W := by rw [hW]; exact (((hB9.setCell (p := ⟨w.heap.size + 1 + 1, 0, none⟩) (by simp; omega) _).setCell (p := ⟨w.heap.size + 1 + 1 + 1, 0, none⟩) (by simp; omega) _).setCell (p := ⟨w.heap.size + 1 + 1 + 1 + 1, 0, none⟩) (by simp; omega) _).drew
  rw [← hW]
  clear hW hr
  refine ⟨by simp, .inr ⟨fun _ => by omega, .func 51, #[.pointer (some ⟨w.heap.size + 1, 0, none⟩), .pointer (some ⟨w.heap.size + 1 + 1, 0, none⟩), .pointer (some ⟨w.heap.size + 1 + 1 + 1, 0, none⟩), .pointer (some ⟨w.heap.size + 1 + 1 + 1 + 1, 0, none⟩)], 51, #[.pointer (some ⟨w.heap.size + 1, 0, none⟩), .pointer (some ⟨w.heap.size + 1 + 1, 0, none⟩), .pointer (some ⟨w.heap.size + 1 + 1 + 1, 0, none⟩), .pointer (some ⟨w.heap.size + 1 + 1 + 1 + 1, 0, none⟩)], rfl, by simp [go_sem], fun _ _ => trivial, ?_⟩⟩
  refine CallsDIn.mono (of1_idle _ _ _ _ _ _) ?_
  rintro r u' w' ⟨⟨v, rfl⟩, rfl, rfl⟩
  have d1 := blk_cell r1
  have d2 := blk_cell r2 0
  have d3 := blk_cell r3 0
  have d4 := blk_cell r4 0
  exact ⟨.tuple #[.agg #[.slice none 0 0, .int .i64 0, .slice none 0 0], .bool false, .slice A 1 c, .int .i64 0], by simp [results, Tryz.results25, go_sem, d1, d2, d3, d4], ⟨_, rfl⟩, hBW⟩
end Go.Proofs.YtaiibchadlaifaaGreatDoor

namespace Go.Proofs.YtaiibchadlaifaaGreatDoor
open Go.RowKit Go.Shelf
attribute [local go_sem] Oper.semAt_some

def sampQ : List Req := [⟨⟨#[97]⟩, 6, 1, false, none, 0, 0, [7, 8]⟩, ⟨⟨#[98]⟩, 4, 1, false, none, 0, 0, [8, 7]⟩]
def sampP : Prg := ⟨⟨#[]⟩, 1, 1, 0, 0, 1, sampQ⟩
def sampL : List Att := [⟨7, 0, 5, 0, 6⟩, ⟨8, 0, 5, 0, 3⟩]

theorem rd_ints2 {w : World} {b : Nat} {T : TypeId} {x y : Int} (h : w.heap[b]? = some (.cells #[.int .i64 x, .int .i64 y] T (0, 0))) : Rd kI w (some ⟨b, 0, none⟩) [x, y] := by
  refine ⟨by simp, fun _ => ⟨b, 0, rfl, fun i u hu => ⟨_, rfl, fun j v hj => ?_⟩⟩⟩
  rw [blk_cell h]
  rcases i with _ | _ | i
  · simp at hu; subst hu; rcases j with _ | j <;> simp_all [kI, Kd.flat]
  · simp at hu; subst hu; rcases j with _ | j <;> simp_all [kI, Kd.flat]
  · simp at hu
theorem rd_sampL {w : World} {b : Nat} {T : TypeId} (h : w.heap[b]? = some (.cells #[.int .i64 7, .int .i64 0, .int .i64 5, .int .i64 0, .int .i64 6, .int .i64 8, .int .i64 0, .int .i64 5, .int .i64 0, .int .i64 3] T (0, 0))) : Rd kAtt w (some ⟨b, 0, none⟩) sampL := by
  refine ⟨by simp [sampL], fun _ => ⟨b, 0, rfl, fun i u hu => ⟨_, rfl, fun j v hj => ?_⟩⟩⟩
  rw [blk_cell h]
  rcases i with _ | _ | i
  · simp [sampL] at hu; subst hu; rcases j with _ | _ | _ | _ | _ | j <;> simp_all [kAtt, Kd.flat, Att.enc]
  · simp [sampL] at hu; subst hu; rcases j with _ | _ | _ | _ | _ | j <;> simp_all [kAtt, Kd.flat, Att.enc]
  · simp [sampL] at hu
theorem rd_sampQ {w : World} {b b1 b2 : Nat} {T T1 T2 : TypeId} (h : w.heap[b]? = some (.cells #[.string ⟨#[97]⟩, .int .i64 6, .int .i64 1, .bool false, .slice none 0 0, .slice (some ⟨b1, 0, none⟩) 2 2, .string ⟨#[98]⟩, .int .i64 4, .int .i64 1, .bool false, .slice none 0 0, .slice (some ⟨b2, 0, none⟩) 2 2] T (0, 0)))
    (h1 : w.heap[b1]? = some (.cells #[.int .i64 7, .int .i64 8] T1 (0, 0))) (h2 : w.heap[b2]? = some (.cells #[.int .i64 8, .int .i64 7] T2 (0, 0))) : Rd kReq w (some ⟨b, 0, none⟩) sampQ := by
  refine ⟨by simp [sampQ], fun _ => ⟨b, 0, rfl, fun i u hu => ?_⟩⟩
  rcases i with _ | _ | i
  · simp [sampQ] at hu; subst hu
    refine ⟨_, ⟨some ⟨b1, 0, none⟩, 2, rfl, by simp, rd_ints2 h1⟩, fun j v hj => ?_⟩
    rw [blk_cell h]
    rcases j with _ | _ | _ | _ | _ | _ | j <;> simp_all [kReq]
  · simp [sampQ] at hu; subst hu
    refine ⟨_, ⟨some ⟨b2, 0, none⟩, 2, rfl, by simp, rd_ints2 h2⟩, fun j v hj => ?_⟩
    rw [blk_cell h]
    rcases j with _ | _ | _ | _ | _ | _ | j <;> simp_all [kReq]
  · simp [sampQ] at hu

set_option maxRecDepth 100000 in
set_option maxHeartbeats 4000000 in
theorem sample_c (w : World) :
    Calls Tryz.prog 33 #[] w fun e w' => ∃ A1 A2, e = .returned (.tuple #[.agg #[.string ⟨#[]⟩, .int .i64 1, .int .i64 1, .int .i64 0, .int .i64 0, .int .i64 1, .slice A1 2 2], .slice A2 2 2]) ∧ Rd kReq w' A1 sampQ ∧ Rd kAtt w' A2 sampL ∧ Below w.heap.size w w' := by
  go_enter Tryz.func33, Tryz.ntmps33
  go_wp2
  have b3 := below3 w (.cells #[.string ⟨#[]⟩, .int .i64 1, .int .i64 1, .int .i64 0, .int .i64 0, .int .i64 1, .slice (some ⟨w.heap.size + 1 + 1 + 1, 0, none⟩) 2 2] 26) (.cells #[.int .i64 7, .int .i64 8] 3) (.cells #[.int .i64 8, .int .i64 7] 3)
  have s3 := alloc3_size w (.cells #[.string ⟨#[]⟩, .int .i64 1, .int .i64 1, .int .i64 0, .int .i64 0, .int .i64 1, .slice (some ⟨w.heap.size + 1 + 1 + 1, 0, none⟩) 2 2] 26) (.cells #[.int .i64 7, .int .i64 8] 3) (.cells #[.int .i64 8, .int .i64 7] 3)
  have k0 := alloc3_blk0 w (.cells #[.string ⟨#[]⟩, .int .i64 1, .int .i64 1, .int .i64 0, .int .i64 0, .int .i64 1, .slice (some ⟨w.heap.size + 1 + 1 + 1, 0, none⟩) 2 2] 26) (.cells #[.int .i64 7, .int .i64 8] 3) (.cells #[.int .i64 8, .int .i64 7] 3)
  have k1 := alloc3_blk1 w (.cells #[.string ⟨#[]⟩, .int .i64 1, .int .i64 1, .int .i64 0, .int .i64 0, .int .i64 1, .slice (some ⟨w.heap.size + 1 + 1 + 1, 0, none⟩) 2 2] 26) (.cells #[.int .i64 7, .int .i64 8] 3) (.cells #[.int .i64 8, .int .i64 7] 3)
  have k2 := alloc3_blk2 w (.cells #[.string ⟨#[]⟩, .int .i64 1, .int .i64 1, .int .i64 0, .int .i64 0, .int .i64 1, .slice (some ⟨w.heap.size + 1 + 1 + 1, 0, none⟩) 2 2] 26) (.cells #[.int .i64 7, .int .i64 8] 3) (.cells #[.int .i64 8, .int .i64 7] 3)
  generalize ((w.alloc _).alloc _).alloc _ = w3 at *
  have c3 := below3 w3 (.cells #[.string ⟨#[97]⟩, .int .i64 6, .int .i64 1, .bool false, .slice none 0 0, .slice (some ⟨w.heap.size + 1, 0, none⟩) 2 2, .string ⟨#[98]⟩, .int .i64 4, .int .i64 1, .bool false, .slice none 0 0, .slice (some ⟨w.heap.size + 1 + 1, 0, none⟩) 2 2] 75) (.cells #[.string ⟨#[]⟩, .int .i64 1, .int .i64 1, .int .i64 0, .int .i64 0, .int .i64 1, .slice (some ⟨w.heap.size + 1 + 1 + 1, 0, none⟩) 2 2] 26) (.cells #[.int .i64 7, .int .i64 0, .int .i64 5, .int .i64 0, .int .i64 6, .int .i64 8, .int .i64 0, .int .i64 5, .int .i64 0, .int .i64 3] 28)
  have m0 := alloc3_blk0 w3 (.cells #[.string ⟨#[97]⟩, .int .i64 6, .int .i64 1, .bool false, .slice none 0 0, .slice (some ⟨w.heap.size + 1, 0, none⟩) 2 2, .string ⟨#[98]⟩, .int .i64 4, .int .i64 1, .bool false, .slice none 0 0, .slice (some ⟨w.heap.size + 1 + 1, 0, none⟩) 2 2] 75) (.cells #[.string ⟨#[]⟩, .int .i64 1, .int .i64 1, .int .i64 0, .int .i64 0, .int .i64 1, .slice (some ⟨w.heap.size + 1 + 1 + 1, 0, none⟩) 2 2] 26) (.cells #[.int .i64 7, .int .i64 0, .int .i64 5, .int .i64 0, .int .i64 6, .int .i64 8, .int .i64 0, .int .i64 5, .int .i64 0, .int .i64 3] 28)
  have m2 := alloc3_blk2 w3 (.cells #[.string ⟨#[97]⟩, .int .i64 6, .int .i64 1, .bool false, .slice none 0 0, .slice (some ⟨w.heap.size + 1, 0, none⟩) 2 2, .string ⟨#[98]⟩, .int .i64 4, .int .i64 1, .bool false, .slice none 0 0, .slice (some ⟨w.heap.size + 1 + 1, 0, none⟩) 2 2] 75) (.cells #[.string ⟨#[]⟩, .int .i64 1, .int .i64 1, .int .i64 0, .int .i64 0, .int .i64 1, .slice (some ⟨w.heap.size + 1 + 1 + 1, 0, none⟩) 2 2] 26) (.cells #[.int .i64 7, .int .i64 0, .int .i64 5, .int .i64 0, .int .i64 6, .int .i64 8, .int .i64 0, .int .i64 5, .int .i64 0, .int .i64 3] 28)
  generalize ((w3.alloc _).alloc _).alloc _ = w6 at *
  rw [s3] at m0 m2
  have r0 := (c3.block w.heap.size (by omega)).trans k0
  have r1 := (c3.block (w.heap.size + 1) (by omega)).trans k1
  have r2 := (c3.block (w.heap.size + 1 + 1) (by omega)).trans k2
  have c0 := blk_cell r0
  exact bodyPost_ret (v := .tuple #[.agg #[.string ⟨#[]⟩, .int .i64 1, .int .i64 1, .int .i64 0, .int .i64 0, .int .i64 1, .slice (some ⟨w.heap.size + 1 + 1 + 1, 0, none⟩) 2 2], .slice (some ⟨w.heap.size + 1 + 1 + 1 + 1 + 1, 0, none⟩) 2 2]) (by simp [results, Tryz.results33, go_sem, c0]) rfl ⟨_, _, rfl, rd_sampQ m0 r1 r2, rd_sampL m2, bthen b3 c3⟩

theorem samp_netE : netE sampP sampL = 0 := by decide
theorem samp_net : netL sampP sampL = [⟨0, 1, 6⟩, ⟨0, 2, 3⟩, ⟨1, 3, 6⟩, ⟨1, 4, 6⟩, ⟨2, 3, 3⟩, ⟨2, 4, 3⟩, ⟨3, 5, 6⟩, ⟨4, 5, 4⟩] := by rfl
/-- The sample's greatest flow is 9. -/
theorem samp_value {F : List Int} {C : Int → Bool} (h : MaxSpec 6 0 5 (netL sampP sampL) F C) : outF (netL sampP sampL) F 0 = 9 := by
  have hn : nodesIn 6 (netL sampP sampL) := netL_nodes sampP sampL
  have ok : okF (netL sampP sampL) [6, 3, 6, 0, 0, 3, 6, 3] := by rw [samp_net]; simp [okF]
  have co : conserve 6 0 5 (netL sampP sampL) [6, 3, 6, 0, 0, 3, 6, 3] := by
    intro v hv h0 h1
    rw [samp_net]
    rcases v with _ | _ | _ | _ | _ | _ | v
    · exact absurd rfl h0
    · rfl
    · rfl
    · rfl
    · rfl
    · exact absurd rfl h1
    · omega
  have a := h.best hn (by omega) (by omega) ok co
  have b := weak (C := fun v => decide (v = 0)) hn h.ok h.cons (by omega) (by omega) (by simp) (by simp)
  have c1 : outF (netL sampP sampL) [6, 3, 6, 0, 0, 3, 6, 3] 0 = 9 := by rw [samp_net]; rfl
  have c2 : capC (fun v => decide (v = 0)) (netL sampP sampL) = 9 := by rw [samp_net]; rfl
  omega
theorem samp_used {F : List Int} {C : Int → Bool} (h : MaxSpec 6 0 5 (netL sampP sampL) F C) : usedC (usesL (pairsL sampP.reqs sampL) (F.drop sampL.length)) = 9 := (used_value h.ok h.cons).trans (samp_value h)
theorem samp_asg {F : List Int} {C : Int → Bool} (h : MaxSpec 6 0 5 (netL sampP sampL) F C) : asgB 1 sampQ sampL (usesL (pairsL sampQ sampL) (F.drop sampL.length)) = true := asg_of_flow (p := sampP) h.ok h.cons
end Go.Proofs.YtaiibchadlaifaaGreatDoor

namespace Go.Proofs.YtaiibchadlaifaaGreatDoor
open Go.RowKit Go.Shelf

section
variable {P : Program} {ops : Array Oper} {md : Region.Mode} {S : World → Prop} {Q : Exit → Act → World → Prop}
theorem wpG_op {n i f : Nat} {oi : Oper} {listed : Array Bool} {a : Act} {w : World} (hi : ops[i]? = some oi) (hB : onlyB md ops n i listed = true) (hw : Region.wanted oi (yielded ops a.tmps) = true)
    (h : oi.wp P a w (fun a' w' => S w' ∧ wpG P md ops Q S n f (listed.setIfInBounds i true) a' w') Q) : wpG P md ops Q S n (f + 1) listed a w := fun hok hQ inv hS => by
  simp only [onlyB, Bool.and_eq_true, decide_eq_true_eq, beq_iff_eq] at hB
  obtain ⟨hr, hin⟩ := hB
  refine ⟨fun e => by (rw [hr] at e; cases e), fun j hj => ?_⟩
  rw [hr, List.mem_singleton] at hj
  subst hj
  refine ⟨hin, ?_⟩
  unfold wpOp
  simp only [hi, hw, if_true]
  exact .inl (Oper.wp_mono (fun a' w' h' => ⟨h'.1, h'.2 hok hQ (inv.set (by rw [hr]; simp) hin) h'.1⟩) h)
theorem wpG_call {n i f : Nat} {oi : Oper} {listed : Array Bool} {a : Act} {w : World} {g : FuncId} {args : Array Value} (hi : ops[i]? = some oi) (hB : onlyB md ops n i listed = true) (hw : Region.wanted oi (yielded ops a.tmps) = true)
    (hrun : (execOp a.eval oi).run P w = .ok (.enter g args) w) (h : Calls P g args w fun e w' => ∃ v, e = .returned v ∧ S w' ∧ wpG P md ops Q S n f (listed.setIfInBounds i true) (a.put oi.dst v) w') : wpG P md ops Q S n (f + 1) listed a w := by
  refine wpG_op hi hB hw ?_
  unfold Oper.wp
  rw [hrun, Oper.upon_enter]
  refine h.mono ?_
  rintro e w' ⟨v, rfl, hk⟩
  exact hk
end
end Go.Proofs.YtaiibchadlaifaaGreatDoor
