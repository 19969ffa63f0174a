/-
  The vocabulary of these proofs: what a slice reads as, kinds of elements, what a call leaves as it was. Conditions: none.
  Small functions of the packages degree and slices: what each call returns. Conditions: the slices read as lists.
  degree.eligible and degree.Eligible: what they return. Conditions: the arguments read as data, at most 1000 requirements.
  Fractions: the sizes, the greatest common divisor, the two checks. Conditions: numbers of 64 bits.
  slices.IndexFunc and slices.ContainsFunc at the instances that the program uses. Conditions: the predicate's own contract.
  The checks of attempts, programmes and networks: what each returns. Conditions: the arguments read as data.
  degree.Check: what it returns. Conditions: the programme reads as data.
  The reference of degree (checks, eligible requirements): what each call returns. Conditions: the arguments read as data.
  Comparisons of lists: what each call returns. Conditions: the arguments read as data.
  The reference of degree: Few, Total, Assigned, Sums, Check. Conditions: the arguments read as data.
-/
import Derived.Test.YtaiibchadlaifaaGreatDoorProg
import Derived.WalkKit
import Derived.Outline
import Derived.OwnWalk
import Derived.Maps.AppendAt
import Derived.Laws.OwnMore
import Derived.Laws.NewBlocks
import Derived.WalkLawsBesides
import Derived.WalkSpells
import Derived.Shelf.Abstract
import Derived.Shelf.RegionOpen
import Derived.OwnWalkIn
import Derived.TacticsInMore
import Derived.LoopNIn
import Derived.LoopIn
import Derived.StillTailTactics
import Derived.Laws.EntriesVeiled
import Derived.Deep.QuietTactic
import Derived.BigQuiet
import Derived.RangeFuncNested
import Derived.RangeFuncBound
import Derived.RangeFuncBox
import Derived.RangeFuncCalls
import Derived.RangeFuncLeaves
import Derived.Laws.StructEq
set_option linter.unusedVariables false
set_option linter.unusedSimpArgs false

namespace Go.Proofs.YtaiibchadlaifaaGreatDoor
open Go.RowKit

/-- Every row of cells lies as it lay. -/
def KeepC (w w' : World) : Prop := ∀ (b : Nat) (c : Array Value) (e : TypeId) (f : Nat × Nat), w.heap[b]? = some (Obj.cells c e f) → w'.heap[b]? = some (Obj.cells c e f)
theorem KeepC.refl (w : World) : KeepC w w := fun _ _ _ _ h => h
theorem KeepC.trans {a b c : World} (h : KeepC a b) (k : KeepC b c) : KeepC a c := fun _ _ _ _ x => k _ _ _ _ (h _ _ _ _ x)
theorem KeepC.of_below {w w' : World} (h : Below w.heap.size w w') : KeepC w w' := fun b _ _ _ hb => (h.block b (Array.getElem?_eq_some_iff.1 hb).1).trans hb
theorem KeepC.cell {w w' : World} (h : KeepC w w') {a : Addr} {v : Value} (hc : w.cell? a = some v) : w'.cell? a = some v := by
  unfold World.cell? at *
  cases ho : w.heap[a.block]? with
  | none => simp [ho] at hc
  | some o => cases o with
    | cells c e f => rw [ho] at hc; rw [h _ _ _ _ ho]; exact hc
    | _ => simp [ho] at hc

structure Kd (α : Type) where
  sz : Nat
  K : World → α → List Value → Prop
  keep : ∀ {w w' : World} {x : α} {cs : List Value}, KeepC w w' → K w x cs → K w' x cs
  len : ∀ {w : World} {x : α} {cs : List Value}, K w x cs → cs.length = sz

/-- The slice value at A with xs.length elements reads as xs. -/
def Rd {α : Type} (d : Kd α) (w : World) (A : Option Addr) (xs : List α) : Prop :=
  xs.length ≤ 9223372036854775807 ∧ (xs ≠ [] → ∃ b off, A = some ⟨b, off, none⟩ ∧ ∀ (i : Nat) (x : α), xs[i]? = some x → ∃ cs, d.K w x cs ∧ ∀ (j : Nat) (v : Value), cs[j]? = some v → w.cell? ⟨b, off + i * d.sz + j, none⟩ = some v)

theorem Rd.len {α : Type} {d : Kd α} {w : World} {A : Option Addr} {xs : List α} (h : Rd d w A xs) : xs.length ≤ 9223372036854775807 := h.1
theorem Rd.keepC {α : Type} {d : Kd α} {w w' : World} {A : Option Addr} {xs : List α} (h : Rd d w A xs) (k : KeepC w w') : Rd d w' A xs :=
  ⟨h.1, fun hn => by
    obtain ⟨b, off, hA, hc⟩ := h.2 hn
    exact ⟨b, off, hA, fun i x hx => by obtain ⟨cs, hK, hv⟩ := hc i x hx; exact ⟨cs, d.keep k hK, fun j v hj => k.cell (hv j v hj)⟩⟩⟩
theorem Rd.below {α : Type} {d : Kd α} {w w' : World} {A : Option Addr} {xs : List α} (h : Rd d w A xs) (k : Below w.heap.size w w') : Rd d w' A xs := h.keepC (.of_below k)
theorem Rd.nil {α : Type} (d : Kd α) (w : World) (A : Option Addr) : Rd d w A [] := ⟨by simp, fun h => absurd rfl h⟩
theorem Rd.get {α : Type} {d : Kd α} {w : World} {A : Option Addr} {xs : List α} (h : Rd d w A xs) {k : Nat} (hk : k < xs.length) (hz : 0 < d.sz) :
    ∃ x b off cs, xs[k]? = some x ∧ A = some ⟨b, off, none⟩ ∧ b < w.heap.size ∧ d.K w x cs ∧ (∀ (j : Nat) (v : Value), cs[j]? = some v → w.cell? ⟨b, off + k * d.sz + j, none⟩ = some v) := by
  obtain ⟨b, off, hA, hc⟩ := h.2 (fun e => by subst e; simp at hk)
  obtain ⟨cs, hK, hv⟩ := hc k xs[k] (List.getElem?_eq_getElem hk)
  have hl := d.len hK
  have h0 := hv 0 _ (List.getElem?_eq_getElem (by omega))
  exact ⟨xs[k], b, off, cs, List.getElem?_eq_getElem hk, hA, World.block_lt_of_cell? w _ h0, hK, hv⟩

def Kd.flat {α : Type} (n : Nat) (enc : α → List Value) (h : ∀ x, (enc x).length = n) : Kd α :=
  { sz := n, K := fun _ x cs => cs = enc x, keep := fun _ h => h, len := fun e => by subst e; exact h _ }

def kI : Kd Int := Kd.flat 1 (fun x => [.int .i64 x]) (fun _ => rfl)
def kB : Kd Bool := Kd.flat 1 (fun x => [.bool x]) (fun _ => rfl)
theorem kI_get {w : World} {A : Option Addr} {xs : List Int} (h : Rd kI w A xs) {k : Nat} (hk : k < xs.length) :
    ∃ x b off, Hid (xs[k]? = some x) ∧ A = some ⟨b, off, none⟩ ∧ b < w.heap.size ∧ w.cell? ⟨b, off + k, none⟩ = some (.int .i64 x) := by
  obtain ⟨x, b, off, cs, hx, hA, hb, rfl, hc⟩ := h.get hk (by decide)
  exact ⟨x, b, off, hx, hA, hb, by have := hc 0 _ rfl; simpa [kI, Kd.flat] using this⟩
theorem kB_get {w : World} {A : Option Addr} {xs : List Bool} (h : Rd kB w A xs) {k : Nat} (hk : k < xs.length) :
    ∃ x b off, Hid (xs[k]? = some x) ∧ A = some ⟨b, off, none⟩ ∧ b < w.heap.size ∧ w.cell? ⟨b, off + k, none⟩ = some (.bool x) := by
  obtain ⟨x, b, off, cs, hx, hA, hb, rfl, hc⟩ := h.get hk (by decide)
  exact ⟨x, b, off, hx, hA, hb, by have := hc 0 _ rfl; simpa [kB, Kd.flat] using this⟩

theorem take_snoc_get {α : Type} {xs : List α} {k : Nat} {x : α} (h : xs[k]? = some x) : xs.take (k + 1) = xs.take k ++ [x] := by
  rw [List.take_add_one, h]; rfl
theorem ret_congr {a b : Value} (h : a = b) : Ending.returned a = Ending.returned b := by rw [h]
theorem bcell {w w1 : World} {B : Nat} (hb : Below B w w1) : (∀ b o, b < B → w1.cell? ⟨b, o, none⟩ = w.cell? ⟨b, o, none⟩) ∧ (∀ b o, b < B → w1.frozen? ⟨b, o, none⟩ = w.frozen? ⟨b, o, none⟩) :=
  ⟨fun b o h => hb.cell (p := ⟨b, o, none⟩) h, fun b o h => hb.frozen (p := ⟨b, o, none⟩) h⟩

structure Att where
  mk ::
  (c t g cam cr : Int)
def Att.enc (x : Att) : List Value := [.int .i64 x.c, .int .i64 x.t, .int .i64 x.g, .int .i64 x.cam, .int .i64 x.cr]
def kAtt : Kd Att := Kd.flat 5 Att.enc (fun _ => rfl)
theorem kAtt_get {w : World} {A : Option Addr} {xs : List Att} (h : Rd kAtt w A xs) {k : Nat} (hk : k < xs.length) :
    ∃ x b off, Hid (xs[k]? = some x) ∧ A = some ⟨b, off, none⟩ ∧ b < w.heap.size ∧ w.cell? ⟨b, off + k * 5, none⟩ = some (.int .i64 x.c) ∧ w.cell? ⟨b, off + k * 5 + 1, none⟩ = some (.int .i64 x.t) ∧ w.cell? ⟨b, off + k * 5 + 2, none⟩ = some (.int .i64 x.g) ∧ w.cell? ⟨b, off + k * 5 + 3, none⟩ = some (.int .i64 x.cam) ∧ w.cell? ⟨b, off + k * 5 + 4, none⟩ = some (.int .i64 x.cr) := by
  obtain ⟨x, b, off, cs, hx, hA, hb, rfl, hc⟩ := h.get hk (by decide)
  exact ⟨x, b, off, hx, hA, hb, hc 0 _ rfl, hc 1 _ rfl, hc 2 _ rfl, hc 3 _ rfl, hc 4 _ rfl⟩

structure Edge where
  mk ::
  (f t m : Int)
def Edge.enc (x : Edge) : List Value := [.int .i64 x.f, .int .i64 x.t, .int .i64 x.m]
def kEdge : Kd Edge := Kd.flat 3 Edge.enc (fun _ => rfl)
theorem kEdge_get {w : World} {A : Option Addr} {xs : List Edge} (h : Rd kEdge w A xs) {k : Nat} (hk : k < xs.length) :
    ∃ x b off, Hid (xs[k]? = some x) ∧ A = some ⟨b, off, none⟩ ∧ b < w.heap.size ∧ w.cell? ⟨b, off + k * 3, none⟩ = some (.int .i64 x.f) ∧ w.cell? ⟨b, off + k * 3 + 1, none⟩ = some (.int .i64 x.t) ∧ w.cell? ⟨b, off + k * 3 + 2, none⟩ = some (.int .i64 x.m) := by
  obtain ⟨x, b, off, cs, hx, hA, hb, rfl, hc⟩ := h.get hk (by decide)
  exact ⟨x, b, off, hx, hA, hb, hc 0 _ rfl, hc 1 _ rfl, hc 2 _ rfl⟩

structure Use where
  mk ::
  (a r c : Int)
def Use.enc (x : Use) : List Value := [.int .i64 x.a, .int .i64 x.r, .int .i64 x.c]
def kUse : Kd Use := Kd.flat 3 Use.enc (fun _ => rfl)
theorem kUse_get {w : World} {A : Option Addr} {xs : List Use} (h : Rd kUse w A xs) {k : Nat} (hk : k < xs.length) :
    ∃ x b off, Hid (xs[k]? = some x) ∧ A = some ⟨b, off, none⟩ ∧ b < w.heap.size ∧ w.cell? ⟨b, off + k * 3, none⟩ = some (.int .i64 x.a) ∧ w.cell? ⟨b, off + k * 3 + 1, none⟩ = some (.int .i64 x.r) ∧ w.cell? ⟨b, off + k * 3 + 2, none⟩ = some (.int .i64 x.c) := by
  obtain ⟨x, b, off, cs, hx, hA, hb, rfl, hc⟩ := h.get hk (by decide)
  exact ⟨x, b, off, hx, hA, hb, hc 0 _ rfl, hc 1 _ rfl, hc 2 _ rfl⟩

structure Fact where
  mk ::
  (kd sj ob v fr to_ kn no : Int)
def Fact.enc (x : Fact) : List Value := [.int .i64 x.kd, .int .i64 x.sj, .int .i64 x.ob, .int .i64 x.v, .int .i64 x.fr, .int .i64 x.to_, .int .i64 x.kn, .int .i64 x.no]
def kFact : Kd Fact := Kd.flat 8 Fact.enc (fun _ => rfl)
theorem kFact_get {w : World} {A : Option Addr} {xs : List Fact} (h : Rd kFact w A xs) {k : Nat} (hk : k < xs.length) :
    ∃ x b off, Hid (xs[k]? = some x) ∧ A = some ⟨b, off, none⟩ ∧ b < w.heap.size ∧ w.cell? ⟨b, off + k * 8, none⟩ = some (.int .i64 x.kd) ∧ w.cell? ⟨b, off + k * 8 + 1, none⟩ = some (.int .i64 x.sj) ∧ w.cell? ⟨b, off + k * 8 + 2, none⟩ = some (.int .i64 x.ob) ∧ w.cell? ⟨b, off + k * 8 + 3, none⟩ = some (.int .i64 x.v) ∧ w.cell? ⟨b, off + k * 8 + 4, none⟩ = some (.int .i64 x.fr) ∧ w.cell? ⟨b, off + k * 8 + 5, none⟩ = some (.int .i64 x.to_) ∧ w.cell? ⟨b, off + k * 8 + 6, none⟩ = some (.int .i64 x.kn) ∧ w.cell? ⟨b, off + k * 8 + 7, none⟩ = some (.int .i64 x.no) := by
  obtain ⟨x, b, off, cs, hx, hA, hb, rfl, hc⟩ := h.get hk (by decide)
  exact ⟨x, b, off, hx, hA, hb, hc 0 _ rfl, hc 1 _ rfl, hc 2 _ rfl, hc 3 _ rfl, hc 4 _ rfl, hc 5 _ rfl, hc 6 _ rfl, hc 7 _ rfl⟩

structure Read where
  mk ::
  (kd sj ob fr to_ : Int)
def Read.enc (x : Read) : List Value := [.int .i64 x.kd, .int .i64 x.sj, .int .i64 x.ob, .int .i64 x.fr, .int .i64 x.to_]
def kRead : Kd Read := Kd.flat 5 Read.enc (fun _ => rfl)
theorem kRead_get {w : World} {A : Option Addr} {xs : List Read} (h : Rd kRead w A xs) {k : Nat} (hk : k < xs.length) :
    ∃ x b off, Hid (xs[k]? = some x) ∧ A = some ⟨b, off, none⟩ ∧ b < w.heap.size ∧ w.cell? ⟨b, off + k * 5, none⟩ = some (.int .i64 x.kd) ∧ w.cell? ⟨b, off + k * 5 + 1, none⟩ = some (.int .i64 x.sj) ∧ w.cell? ⟨b, off + k * 5 + 2, none⟩ = some (.int .i64 x.ob) ∧ w.cell? ⟨b, off + k * 5 + 3, none⟩ = some (.int .i64 x.fr) ∧ w.cell? ⟨b, off + k * 5 + 4, none⟩ = some (.int .i64 x.to_) := by
  obtain ⟨x, b, off, cs, hx, hA, hb, rfl, hc⟩ := h.get hk (by decide)
  exact ⟨x, b, off, hx, hA, hb, hc 0 _ rfl, hc 1 _ rfl, hc 2 _ rfl, hc 3 _ rfl, hc 4 _ rfl⟩

structure Point where
  mk ::
  (t v : Int)
def Point.enc (x : Point) : List Value := [.int .i64 x.t, .int .i64 x.v]
def kPoint : Kd Point := Kd.flat 2 Point.enc (fun _ => rfl)
theorem kPoint_get {w : World} {A : Option Addr} {xs : List Point} (h : Rd kPoint w A xs) {k : Nat} (hk : k < xs.length) :
    ∃ x b off, Hid (xs[k]? = some x) ∧ A = some ⟨b, off, none⟩ ∧ b < w.heap.size ∧ w.cell? ⟨b, off + k * 2, none⟩ = some (.int .i64 x.t) ∧ w.cell? ⟨b, off + k * 2 + 1, none⟩ = some (.int .i64 x.v) := by
  obtain ⟨x, b, off, cs, hx, hA, hb, rfl, hc⟩ := h.get hk (by decide)
  exact ⟨x, b, off, hx, hA, hb, hc 0 _ rfl, hc 1 _ rfl⟩

structure Rat where
  mk ::
  (n d : Int)
def Rat.enc (x : Rat) : List Value := [.int .i64 x.n, .int .i64 x.d]
def kRat : Kd Rat := Kd.flat 2 Rat.enc (fun _ => rfl)
theorem kRat_get {w : World} {A : Option Addr} {xs : List Rat} (h : Rd kRat w A xs) {k : Nat} (hk : k < xs.length) :
    ∃ x b off, Hid (xs[k]? = some x) ∧ A = some ⟨b, off, none⟩ ∧ b < w.heap.size ∧ w.cell? ⟨b, off + k * 2, none⟩ = some (.int .i64 x.n) ∧ w.cell? ⟨b, off + k * 2 + 1, none⟩ = some (.int .i64 x.d) := by
  obtain ⟨x, b, off, cs, hx, hA, hb, rfl, hc⟩ := h.get hk (by decide)
  exact ⟨x, b, off, hx, hA, hb, hc 0 _ rfl, hc 1 _ rfl⟩

/-- A requirement: its name, credits, grade, whether at home, its names (never looked into), its courses. -/
structure Req where
  mk ::
  (nm : ByteArray) (cr gr : Int) (home : Bool) (nA : Option Addr) (nn nc : Nat) (fr : List Int)
def kReq : Kd Req where
  sz := 6
  K := fun w q cs => ∃ A c, cs = [.string q.nm, .int .i64 q.cr, .int .i64 q.gr, .bool q.home, .slice q.nA q.nn q.nc, .slice A q.fr.length c] ∧ q.fr.length ≤ c ∧ Rd kI w A q.fr
  keep := fun k h => by obtain ⟨A, c, rfl, hc, hr⟩ := h; exact ⟨A, c, rfl, hc, hr.keepC k⟩
  len := fun h => by obtain ⟨A, c, rfl, _, _⟩ := h; rfl
theorem kReq_get {w : World} {A : Option Addr} {xs : List Req} (h : Rd kReq w A xs) {k : Nat} (hk : k < xs.length) :
    ∃ x b off B c, Hid (xs[k]? = some x) ∧ A = some ⟨b, off, none⟩ ∧ b < w.heap.size ∧ x.fr.length ≤ c ∧ Rd kI w B x.fr ∧ w.cell? ⟨b, off + k * 6, none⟩ = some (.string x.nm) ∧ w.cell? ⟨b, off + k * 6 + 1, none⟩ = some (.int .i64 x.cr) ∧ w.cell? ⟨b, off + k * 6 + 2, none⟩ = some (.int .i64 x.gr) ∧ w.cell? ⟨b, off + k * 6 + 3, none⟩ = some (.bool x.home) ∧ w.cell? ⟨b, off + k * 6 + 4, none⟩ = some (.slice x.nA x.nn x.nc) ∧ w.cell? ⟨b, off + k * 6 + 5, none⟩ = some (.slice B x.fr.length c) := by
  obtain ⟨x, b, off, cs, hx, hA, hb, ⟨B, c, rfl, hlc, hr⟩, hc⟩ := h.get hk (by decide)
  exact ⟨x, b, off, B, c, hx, hA, hb, hlc, hr, hc 0 _ rfl, hc 1 _ rfl, hc 2 _ rfl, hc 3 _ rfl, hc 4 _ rfl, hc 5 _ rfl⟩

structure Prg where
  mk ::
  (nm : ByteArray) (num uses earn mn md : Int) (reqs : List Req)

/-- A row of flat elements that is the call's own. -/
def OwnF {α : Type} (enc : α → List Value) (sz : Nat) (e : TypeId) (base : Nat) (w : World) (v : Value) (xs : List α) : Prop := w.ownsRow base e sz v xs.length (xs.flatMap enc)
def encI (x : Int) : List Value := [.int .i64 x]
def encB (x : Bool) : List Value := [.bool x]
theorem flatMap_get {α : Type} {enc : α → List Value} {sz : Nat} (hl : ∀ x, (enc x).length = sz) : ∀ (xs : List α) (i : Nat) (x : α) (j : Nat) (v : Value), xs[i]? = some x → (enc x)[j]? = some v → (xs.flatMap enc)[i * sz + j]? = some v := by
  intro xs
  induction xs with
  | nil => intro i x j v h; simp at h
  | cons y ys ih =>
    intro i x j v hx hv
    have hj : j < sz := by rw [← hl x]; exact (List.getElem?_eq_some_iff.1 hv).1
    cases i with
    | zero => simp at hx; subst hx; rw [List.flatMap_cons, List.getElem?_append_left (by rw [hl]; omega)]; simpa using hv
    | succ i =>
      rw [List.flatMap_cons, List.getElem?_append_right (by rw [hl, Nat.succ_mul]; omega), hl]
      rw [show (i + 1) * sz + j - sz = i * sz + j by rw [Nat.succ_mul]; omega]
      exact ih i x j v (by simpa using hx) hv
theorem OwnF.rd {α : Type} {enc : α → List Value} {sz : Nat} {e base : Nat} {w : World} {v : Value} {xs : List α} (hl : ∀ x, (enc x).length = sz) (h : OwnF enc sz e base w v xs) :
    ∃ A c, v = .slice A xs.length c ∧ xs.length ≤ c ∧ Rd (Kd.flat sz enc hl) w A xs := by
  obtain ⟨hlen, ⟨rfl, h0⟩ | ⟨g, cap, cur, rfl, hbg, hg, hnc, hcm, hcs, htake⟩⟩ := h
  · have : xs = [] := List.eq_nil_of_length_eq_zero h0
    subst this; exact ⟨none, 0, rfl, by simp, Rd.nil _ _ _⟩
  · refine ⟨_, cap, rfl, hnc, ⟨by unfold maxLen at hcm; omega, fun _ => ⟨g, 0, rfl, fun i x hx => ⟨enc x, rfl, fun j v hv => ?_⟩⟩⟩⟩
    have h1 := flatMap_get hl xs i x j v hx hv
    rw [← htake] at h1
    have h2 : cur[i * sz + j]? = some v := by
      rw [List.getElem?_take] at h1
      split at h1
      · simpa using h1
      · cases h1
    show w.cell? ⟨g, 0 + i * sz + j, none⟩ = some v
    unfold World.cell?
    rw [show w.heap[(⟨g, 0 + i * sz + j, none⟩ : Addr).block]? = some (.cells cur e (0, 0)) from hg]
    simpa using h2
theorem OwnF.nil {α : Type} (enc : α → List Value) (sz : Nat) (e base : Nat) (w : World) : OwnF enc sz e base w (.slice none 0 0) [] := World.ownsRow_nil w base e sz
theorem OwnF.below {α : Type} {enc : α → List Value} {sz : Nat} {e base : Nat} {w w' : World} {v : Value} {xs : List α} (h : OwnF enc sz e base w v xs) (k : Below w.heap.size w w') : OwnF enc sz e base w' v xs :=
  World.ownsRow.kept h (row := none) ⟨k.os, k.tape, k.output, k.size, fun i hi _ => k.block i hi⟩ (by cases hv : v.ownBlock <;> simp)
theorem below1 (w : World) (a : Obj) : Below w.heap.size w (w.alloc a) := (Below.refl _ _).alloc (Nat.le_refl _) _
theorem below2 (w : World) (a b : Obj) : Below w.heap.size w ((w.alloc a).alloc b) := (below1 w a).alloc (by simp) _
theorem below3 (w : World) (a b c : Obj) : Below w.heap.size w (((w.alloc a).alloc b).alloc c) := (below2 w a b).alloc (by simp; omega) _
theorem below4 (w : World) (a b c d : Obj) : Below w.heap.size w ((((w.alloc a).alloc b).alloc c).alloc d) := (below3 w a b c).alloc (by simp; omega) _
/-- A callee's frame behind one's own. -/
theorem bthen {w w1 w2 : World} (h : Below w.heap.size w w1) (k : Below w1.heap.size w1 w2) : Below w.heap.size w w2 := h.trans (k.mono h.size)
def upTo {β : Type} (f : Nat → List β) : Nat → List β | 0 => [] | n + 1 => upTo f n ++ f n
theorem upTo_le {β : Type} {f : Nat → List β} (h : ∀ k, (f k).length ≤ 1) : ∀ n, (upTo f n).length ≤ n
  | 0 => Nat.le_refl _
  | n + 1 => by rw [upTo, List.length_append]; have := upTo_le h n; have := h n; omega
theorem OwnF.lower {α : Type} {enc : α → List Value} {sz : Nat} {e base base' : Nat} {w : World} {v : Value} {xs : List α} (h : OwnF enc sz e base w v xs) (hb : base' ≤ base) : OwnF enc sz e base' w v xs := by
  obtain ⟨hl, h | ⟨g, cap, cur, h1, h2, h3⟩⟩ := h
  · exact ⟨hl, .inl h⟩
  · exact ⟨hl, .inr ⟨g, cap, cur, h1, by omega, h3⟩⟩
theorem blk_cell {W : World} {B : Nat} {cs : Array Value} {T : TypeId} {f : Nat × Nat} (h : W.heap[B]? = some (.cells cs T f)) : ∀ j : Nat, W.cell? ⟨B, j, none⟩ = cs[j]? := fun j => by simp [World.cell?, h]
theorem blk_frozen {W : World} {B : Nat} {cs : Array Value} {T : TypeId} (h : W.heap[B]? = some (.cells cs T (0, 0))) : ∀ j : Nat, W.frozen? ⟨B, j, none⟩ = false := fun j => by simp [World.frozen?, h]
theorem alloc1_blk (w : World) (a : Obj) : (w.alloc a).heap[w.heap.size]? = some a := World.alloc_heap_new w a
theorem alloc2_blk0 (w : World) (a b : Obj) : ((w.alloc a).alloc b).heap[w.heap.size]? = some a := (Below.heap_alloc _ _ _ (by simp)).trans (World.alloc_heap_new w a)
theorem alloc2_blk1 (w : World) (a b : Obj) : ((w.alloc a).alloc b).heap[w.heap.size + 1]? = some b := by have := World.alloc_heap_new (w.alloc a) b; rwa [World.size_alloc] at this
theorem alloc3_blk0 (w : World) (a b c : Obj) : (((w.alloc a).alloc b).alloc c).heap[w.heap.size]? = some a := (Below.heap_alloc _ _ _ (by simp; omega)).trans (alloc2_blk0 w a b)
theorem alloc3_blk1 (w : World) (a b c : Obj) : (((w.alloc a).alloc b).alloc c).heap[w.heap.size + 1]? = some b := (Below.heap_alloc _ _ _ (by simp)).trans (alloc2_blk1 w a b)
theorem alloc3_blk2 (w : World) (a b c : Obj) : (((w.alloc a).alloc b).alloc c).heap[w.heap.size + 1 + 1]? = some c := by have := World.alloc_heap_new ((w.alloc a).alloc b) c; rwa [World.size_alloc, World.size_alloc] at this
theorem alloc3_size (w : World) (a b c : Obj) : (((w.alloc a).alloc b).alloc c).heap.size = w.heap.size + 3 := by simp
theorem alloc2_size (w : World) (a b : Obj) : ((w.alloc a).alloc b).heap.size = w.heap.size + 2 := by simp
theorem encI_one (x : Int) : ∀ u ∈ encI x, u.oneCell' = true := by intro u hu; rw [List.mem_singleton.1 hu]; rfl
theorem encB_one (x : Bool) : ∀ u ∈ encB x, u.oneCell' = true := by intro u hu; rw [List.mem_singleton.1 hu]; rfl
theorem encI_len (x : Int) : (encI x).length = 1 := rfl
theorem encB_len (x : Bool) : (encB x).length = 1 := rfl
theorem OwnF.alloc {α : Type} {enc : α → List Value} {sz : Nat} {e base : Nat} {w : World} {v : Value} {xs : List α} (h : OwnF enc sz e base w v xs) (o : Obj) : OwnF enc sz e base (w.alloc o) v xs := h.below (below1 w o)
/-- As Below, one block E apart. -/
structure BelowX (B E : Nat) (w w' : World) : Prop where
  os : w'.os = w.os
  tape : w'.tape = w.tape
  output : w'.output = w.output
  size : w.heap.size ≤ w'.heap.size
  block : ∀ k, k < B → k ≠ E → w'.heap[k]? = w.heap[k]?
theorem BelowX.refl (B E : Nat) (w : World) : BelowX B E w w := ⟨rfl, rfl, rfl, Nat.le_refl _, fun _ _ _ => rfl⟩
theorem BelowX.trans {B E : Nat} {a b c : World} (h : BelowX B E a b) (k : BelowX B E b c) : BelowX B E a c := ⟨k.os.trans h.os, k.tape.trans h.tape, k.output.trans h.output, Nat.le_trans h.size k.size, fun i hi hn => (k.block i hi hn).trans (h.block i hi hn)⟩
theorem BelowX.of_below {B B' E : Nat} {w w' : World} (h : Below B w w') (hB : B' ≤ B) : BelowX B' E w w' := ⟨h.os, h.tape, h.output, h.size, fun k hk _ => h.block k (by omega)⟩
theorem BelowX.below {B E n : Nat} {w w' : World} (h : BelowX B E w w') (hn : n ≤ B) (hE : n ≤ E) : Below n w w' := ⟨h.os, h.tape, h.output, h.size, fun k hk => h.block k (by omega) (by omega)⟩
theorem BelowX.set {B E : Nat} {a w : World} (h : BelowX B E a w) {p : Addr} (hp : p.block = E ∨ B ≤ p.block) (u : Value) : BelowX B E a (w.setCell p u) :=
  ⟨h.os, h.tape, h.output, Nat.le_trans h.size (by show w.heap.size ≤ (w.heap.modify _ _).size; rw [Array.size_modify]; exact Nat.le_refl _), fun k hk hn => (Below.heap_setCell w p u k (by omega)).trans (h.block k hk hn)⟩
theorem BelowX.alloc {B E : Nat} {a w : World} (h : BelowX B E a w) (hB : B ≤ w.heap.size) (o : Obj) : BelowX B E a (w.alloc o) := h.trans (.of_below (below1 w o) hB)
theorem BelowX.drew {B E : Nat} {a w : World} (h : BelowX B E a w) : BelowX B E a w.drew := ⟨h.os, h.tape, h.output, h.size, h.block⟩
theorem BelowX.grown {B E : Nat} {a w w' : World} {row : Option Nat} (h : BelowX B E a w) (hg : w.grownBy w' row) (hB : B ≤ w.heap.size) (hr : ∀ k, row = some k → B ≤ k) : BelowX B E a w' :=
  h.trans ⟨hg.os, hg.tape, hg.output, hg.size, fun k hk _ => hg.block k (by omega) (fun e => by have := hr k e.symm; omega)⟩
theorem BelowX.cell {B E : Nat} {w w' : World} (h : BelowX B E w w') {p : Addr} (hp : p.block < B) (hE : p.block ≠ E) : w'.cell? p = w.cell? p := World.cell?_of_block (w := w) (h.block p.block hp hE)
theorem OwnF.row {α : Type} {enc : α → List Value} {sz : Nat} {e base : Nat} {w : World} {v : Value} {xs : List α} (h : OwnF enc sz e base w v xs) : ∀ k, v.ownBlock = some k → base ≤ k ∧ ∃ cur f, w.heap[k]? = some (Obj.cells cur e f) := by
  intro k hk
  obtain ⟨_, ⟨rfl, _⟩ | ⟨g, cap, cur, rfl, hbg, hg, _⟩⟩ := h
  · cases hk
  · cases hk; exact ⟨hbg, cur, _, hg⟩
theorem OwnF.kept {α : Type} {enc : α → List Value} {sz : Nat} {e base : Nat} {w w' : World} {v : Value} {xs : List α} (h : OwnF enc sz e base w v xs) (k : ∀ b cur f, base ≤ b → w.heap[b]? = some (Obj.cells cur e f) → w'.heap[b]? = some (Obj.cells cur e f)) : OwnF enc sz e base w' v xs := by
  obtain ⟨hl, h | ⟨g, cap, cur, h1, h2, h3, h4⟩⟩ := h
  · exact ⟨hl, .inl h⟩
  · exact ⟨hl, .inr ⟨g, cap, cur, h1, h2, k g cur _ h2 h3, h4⟩⟩
/-- 'append(xs, y)' on a row of the call's own. -/
theorem wpList_append1 {P : Program} {ops : Array Oper} {rest : List Oper} {o : Oper} {a : Act} {Q : Exit → Act → World → Prop} {w : World} {α : Type} {enc : α → List Value} {sz : Nat} (hgd : o.guard = none) (s x : Operand) (t : TypeId)
    (ho : o.op = .call { callee := .builtin .append, args := #[s, x], argTypes := #[t, t] })
    (e : TypeId) (z : Value) (bytes : Nat) (ht : P.underlying t = some (.slice e)) (hinfo : (P.info? e).map (fun i => (i.zero, i.size, i.bytes)) = some (some z, sz, bytes))
    (hzs : z.cells.size = sz) (hsz : 0 < sz) (henc : ∀ x, (enc x).length = sz) (h1 : ∀ x, ∀ u ∈ enc x, u.oneCell' = true)
    (base : Nat) (v : Value) (xs : List α) (hs : a.eval s = v) (hown : OwnF enc sz e base w v xs)
    (B : Nat) (y : α) (hx : a.eval x = .slice (some ⟨B, 0, none⟩) 1 1) (hnews : ∀ j u, (enc y)[j]? = some u → w.cell? ⟨B, j, none⟩ = some u)
    (hlen : xs.length < 1000000000) (hbytes : bytes ≤ 10000) (hbase : base ≤ w.heap.size)
    (h : ∀ v' w', OwnF enc sz e base w' v' (xs ++ [y]) → w.heap.size ≤ w'.heap.size → (∀ n₀ u, n₀ ≤ base → Below n₀ u w → Below n₀ u w') → w.grownBy w' v.ownBlock → (∃ A c, v' = .slice A (xs.length + 1) c) → wpList P ops Q rest (a.put o.dst v') w') : wpList P ops Q (o :: rest) a w := by
  obtain ⟨i0, hi, hz0, hz1, hz2⟩ := info_parts hinfo
  have hb2 : (xs.length + 1) * bytes ≤ 1000000000 * 10000 := Nat.mul_le_mul (by omega) hbytes
  refine wpList_append_own _ hgd s x t ho base e i0 z sz bytes ht hi hz0 hz1 hz2 hzs hsz v xs.length _ hs hown ⟨B, 0, none⟩ 1 1 (enc y) hx (by rw [henc]; omega) (fun j u hj => ?_) (h1 y) (by unfold maxLen; omega) (by omega) hbase ?_
  · have := hnews j u hj
    unfold Addr.add; split
    · rename_i h0; subst h0; exact this
    · simpa using this
  · intro v' w' hown' hg _
    have ho' : OwnF enc sz e base w' v' (xs ++ [y]) := by unfold OwnF; rw [List.length_append, List.flatMap_append]; simpa using hown'
    refine h v' w' ho' hg.size (fun n₀ u hn hu => hu.grown hg (Nat.le_trans hn hbase) (fun k hk => ?_)) hg ?_
    · exact Nat.le_trans hn (hown.lt k hk).1
    · obtain ⟨A, c, hv, _⟩ := ho'.rd henc
      exact ⟨A, c, by rw [hv, List.length_append]; rfl⟩
/-- 'append(xs, y)' on a row of the call's own. -/
theorem wpListIn_append1 {P : Program} {F : Fence} {n : Nat} {ops : Array Oper} {rest : List Oper} {o : Oper} {a : Act} {Q : Exit → Act → World → Prop} {w : World} {α : Type} {enc : α → List Value} {sz : Nat} (hgd : o.guard = none) (s x : Operand) (t : TypeId)
    (ho : o.op = .call { callee := .builtin .append, args := #[s, x], argTypes := #[t, t] })
    (e : TypeId) (z : Value) (bytes : Nat) (ht : P.underlying t = some (.slice e)) (hinfo : (P.info? e).map (fun i => (i.zero, i.size, i.bytes)) = some (some z, sz, bytes))
    (hzs : z.cells.size = sz) (hsz : 0 < sz) (henc : ∀ x, (enc x).length = sz) (h1 : ∀ x, ∀ u ∈ enc x, u.oneCell' = true)
    (base : Nat) (v : Value) (xs : List α) (hs : a.eval s = v) (hown : OwnF enc sz e base w v xs)
    (B : Nat) (y : α) (hx : a.eval x = .slice (some ⟨B, 0, none⟩) 1 1) (hnews : ∀ j u, (enc y)[j]? = some u → w.cell? ⟨B, j, none⟩ = some u)
    (hlen : xs.length < 1000000000) (hbytes : bytes ≤ 10000) (hbase : base ≤ w.heap.size)
    (h : ∀ v' w', OwnF enc sz e base w' v' (xs ++ [y]) → w.heap.size ≤ w'.heap.size → (∀ n₀ u, n₀ ≤ base → Below n₀ u w → Below n₀ u w') → w.grownBy w' v.ownBlock → (∃ A c, v' = .slice A (xs.length + 1) c) → wpListIn F n P ops Q rest (a.put o.dst v') w') : wpListIn F n P ops Q (o :: rest) a w := by
  obtain ⟨i0, hi, hz0, hz1, hz2⟩ := info_parts hinfo
  have hb2 : (xs.length + 1) * bytes ≤ 1000000000 * 10000 := Nat.mul_le_mul (by omega) hbytes
  refine wpListIn_append_own _ hgd s x t ho base e i0 z sz bytes ht hi hz0 hz1 hz2 hzs hsz v xs.length _ hs hown ⟨B, 0, none⟩ 1 1 (enc y) hx (by rw [henc]; omega) (fun j u hj => ?_) (h1 y) (by unfold maxLen; omega) (by omega) hbase ?_
  · have := hnews j u hj
    unfold Addr.add; split
    · rename_i h0; subst h0; exact this
    · simpa using this
  · intro v' w' hown' hg _
    have ho' : OwnF enc sz e base w' v' (xs ++ [y]) := by unfold OwnF; rw [List.length_append, List.flatMap_append]; simpa using hown'
    refine h v' w' ho' hg.size (fun n₀ u hn hu => hu.grown hg (Nat.le_trans hn hbase) (fun k hk => ?_)) hg ?_
    · exact Nat.le_trans hn (hown.lt k hk).1
    · obtain ⟨A, c, hv, _⟩ := ho'.rd henc
      exact ⟨A, c, by rw [hv, List.length_append]; rfl⟩
theorem q0 {P : Program} {f : FuncId} {args : Array Value} {w : World} {n : Nat} {v : Value} (h : Calls P f args (w.drewN n) fun e w' => e = .returned v ∧ w.drewN n = w') : Calls P f args (w.drewN n) fun e w'' => e = .returned v ∧ ∃ m, w'' = w.drewN m :=
  h.mono fun _ _ ⟨he, hm⟩ => ⟨he, n, hm.symm⟩
theorem qd {P : Program} {f : FuncId} {args : Array Value} {w : World} {n : Nat} {v : Value} (h : Calls P f args (w.drewN n) fun e w' => e = .returned v ∧ ∃ m, w' = (w.drewN n).drewN m) : Calls P f args (w.drewN n) fun e w'' => e = .returned v ∧ ∃ m, w'' = w.drewN m := Calls.quiet_of h
theorem OwnF.made {α : Type} (enc : α → List Value) {sz : Nat} (e : TypeId) {base : Nat} {w : World} (hb : base ≤ w.heap.size) : OwnF enc sz e base (w.alloc (.cells #[] e)) (.slice (some ⟨w.heap.size, 0, none⟩) 0 0) [] :=
  World.ownsRow_made w #[] 0 hb (by unfold maxLen; omega) (by simp)
theorem below_drewN2 (B : Nat) (w : World) (n : Nat) : Below B w (w.drewN n) := ⟨rfl, rfl, rfl, Nat.le_refl _, fun _ _ => rfl⟩
theorem below_drewN (w : World) (n : Nat) : Below w.heap.size w (w.drewN n) := ⟨rfl, rfl, rfl, Nat.le_refl _, fun _ _ => rfl⟩
theorem grown_of_below {w w1 : World} (h : Below w.heap.size w w1) (row : Option Nat) : w.grownBy w1 row := ⟨h.os, h.tape, h.output, h.size, fun i hi _ => h.block i hi⟩
/-- It reads so in every world that keeps what lies below n₀. -/
def SRd {α : Type} (n₀ : Nat) (d : Kd α) (w : World) (A : Option Addr) (xs : List α) : Prop := ∀ W, Below n₀ w W → Rd d W A xs
theorem Rd.s {α : Type} {d : Kd α} {w : World} {A : Option Addr} {xs : List α} (h : Rd d w A xs) : SRd w.heap.size d w A xs := fun _ k => h.below k
theorem SRd.below {α : Type} {n₀ : Nat} {d : Kd α} {w w' : World} {A : Option Addr} {xs : List α} (h : SRd n₀ d w A xs) (k : Below n₀ w w') : SRd n₀ d w' A xs := fun W hW => h W (k.trans hW)
theorem SRd.rd {α : Type} {n₀ : Nat} {d : Kd α} {w : World} {A : Option Addr} {xs : List α} (h : SRd n₀ d w A xs) : Rd d w A xs := h w (Below.refl _ _)
abbrev F0 : Fence := Fence.wide
theorem take_map_succ {α β : Type} {f : α → β} {xs : List α} {k : Nat} {x : α} (h : xs[k]? = some x) : (xs.take (k + 1)).map f = (xs.take k).map f ++ [f x] := by rw [take_snoc_get h]; simp
theorem exists_sub {α : Type} {p : α → Prop} : ∀ {l : List α}, (∀ x, x ∈ l → p x) → ∃ ls : List { x : α // p x }, ls.map (·.1) = l
  | [], _ => ⟨[], rfl⟩
  | x :: xs, h => by
    obtain ⟨ls, hls⟩ := exists_sub (l := xs) (fun y hy => h y (by simp [hy]))
    exact ⟨⟨x, h x (by simp)⟩ :: ls, by simp [hls]⟩
end Go.Proofs.YtaiibchadlaifaaGreatDoor

namespace Go.Proofs.YtaiibchadlaifaaGreatDoor
open Go.RowKit

def hasI (xs : List Int) (v : Int) : Bool := xs.any fun x => v == x
theorem hasI_snoc (xs : List Int) (x v : Int) : hasI (xs ++ [x]) v = (hasI xs v || (v == x)) := by simp [hasI]
theorem hasI_nil (v : Int) : hasI [] v = false := rfl
def inB (n lo hi : Int) : Bool := decide (lo ≤ n ∧ n ≤ hi)
def attOk (a : Att) : Bool := inB a.c 0 4095 && inB a.t 0 1023 && inB a.g 0 12 && inB a.cam 0 6 && inB a.cr 0 60
def edgeOk (n : Int) (x : Edge) : Bool := decide (0 ≤ x.f ∧ x.f < n ∧ 0 ≤ x.t ∧ x.t < n ∧ x.f ≠ x.t ∧ 0 ≤ x.m ∧ x.m ≤ 1073741824)

set_option maxHeartbeats 400000 in
theorem degree_within_c (n lo hi : Int) (w : World) : Calls Tryz.prog 35 #[.int .i64 n, .int .i64 lo, .int .i64 hi] w fun e w' => e = .returned (.bool (inB n lo hi)) ∧ w = w' := by
  go_enter Tryz.func35, Tryz.ntmps35
  go_wp2
  all_goals (go_ret; exact ⟨by simp [inB]; omega, rfl⟩)

set_option maxHeartbeats 400000 in
theorem index_int_c (w : World) (A : Option Addr) (cap : Nat) (xs : List Int) (v : Int) (h : Rd kI w A xs) :
    Calls Tryz.prog 135 #[.slice A xs.length cap, .int .i64 v] w fun e w' => (∃ r : Int, e = .returned (.int .i64 r) ∧ decide (0 ≤ r) = hasI xs v) ∧ w = w' := by
  have hl := h.len
  go_enter Tryz.func135, Tryz.ntmps135
  go_wp2
  go_loop [5, 8] (fun _ i => ∃ k : Nat, k ≤ xs.length ∧ i = .int .i64 k ∧ Hid (hasI (xs.take k) v = false)) (fun _ i => xs.length - (intOf i).toNat)
  case atStart => exact ⟨0, Nat.zero_le _, rfl, rfl⟩
  case round =>
    obtain ⟨k, hk, rfl, hno⟩ := hrel
    by_cases hlt : k < xs.length
    · obtain ⟨x, b, off, hx, rfl, hb, hc⟩ := kI_get h hlt
      have ht : Hid (hasI (xs.take (k + 1)) v = (v == x)) := by
        show hasI (xs.take (k + 1)) v = _
        rw [take_snoc_get hx.out, hasI_snoc, hno.out]; simp
      by_cases he : v = x
      · have he' : (v == x) = true := by simpa using he
        clear he
        go_wp2
        go_ret
        refine ⟨⟨_, rfl, ?_⟩, rfl⟩
        have hall : hasI xs v = true := by
          have h2 : hasI (xs.take (k + 1)) v = true := by rw [ht.out]; exact he'
          unfold hasI at *; rw [List.any_eq_true] at *; obtain ⟨y, hy, h3⟩ := h2; exact ⟨y, List.mem_of_mem_take hy, h3⟩
        rw [hall]; simp
      · have he' : (v == x) = false := by simpa using he
        go_wp2
        go_round
        case rel => exact ⟨k + 1, hlt, by go_num, by show _ = _; rw [ht.out]; exact he'⟩
        case measure => simp [intOf]; omega
    · go_wp2
      go_ret
      refine ⟨⟨_, rfl, ?_⟩, rfl⟩
      have := hno.out; rw [List.take_of_length_le (by omega)] at this; rw [this]; simp

set_option maxHeartbeats 400000 in
theorem contains_int_c (w : World) (A : Option Addr) (cap : Nat) (xs : List Int) (v : Int) (h : Rd kI w A xs) :
    Calls Tryz.prog 79 #[.slice A xs.length cap, .int .i64 v] w fun e w' => e = .returned (.bool (hasI xs v)) ∧ w = w' := by
  go_enter Tryz.func79, Tryz.ntmps79
  go_wp2_with (go_at_call 135; refine (index_int_c _ _ _ _ _ h).mono ?_; rintro e w' ⟨⟨r, rfl, hr⟩, rfl⟩)
  go_ret
  exact ⟨ret_congr (by simp [← hr]), rfl⟩
end Go.Proofs.YtaiibchadlaifaaGreatDoor

namespace Go.Proofs.YtaiibchadlaifaaGreatDoor
open Go.RowKit

def eligB (q : Req) (a : Att) : Bool := decide (q.gr ≤ a.g) && (!q.home || decide (a.cam = 0)) && hasI q.fr a.c

theorem Tryz.info3 : (Tryz.prog.info? 3).map (fun i => (i.zero, i.size, i.bytes)) = some (some (.int .i64 0), 1, 8) := by kernel_rfl
set_option maxHeartbeats 1000000 in
theorem eligible_c (w : World) (q : Req) (a : Att) (A : Option Addr) (c : Nat) (h : Rd kI w A q.fr) :
    Calls Tryz.prog 40 #[.agg #[.string q.nm, .int .i64 q.cr, .int .i64 q.gr, .bool q.home, .slice q.nA q.nn q.nc, .slice A q.fr.length c], .agg #[.int .i64 a.c, .int .i64 a.t, .int .i64 a.g, .int .i64 a.cam, .int .i64 a.cr]] w
      fun e w' => e = .returned (.bool (eligB q a)) ∧ Below w.heap.size w w' := by
  have hin : ∀ W, Below w.heap.size w W → Calls Tryz.prog 79 #[.slice A q.fr.length c, .int .i64 a.c] W fun e w' => e = .returned (.bool (hasI q.fr a.c)) ∧ W = w' := fun W hb => contains_int_c W A c q.fr a.c (h.below hb)
  obtain ⟨qnm, qcr, qgr, qh, qA, qn, qc, qf⟩ := q
  obtain ⟨ac, at_, ag, am, acr⟩ := a
  unfold eligB
  dsimp only at *
  go_enter Tryz.func40, Tryz.ntmps40
  go_wp2_with (go_at_call 79; refine (hin _ (((Below.refl _ _).alloc (Nat.le_refl _) _).alloc (by simp) _)).mono ?_; rintro e w' ⟨rfl, rfl⟩)
  all_goals (go_ret; exact ⟨ret_congr (by simp [*]; try omega), below2 _ _ _⟩)

/-- What Eligible returns. -/
def eligF (qs : List Req) (a : Att) (k : Nat) : List Int := if (qs[k]?.map fun q => eligB q a).getD false then [(k : Int)] else []
def eligL (qs : List Req) (a : Att) : List Int := upTo (eligF qs a) qs.length
theorem eligF_at {qs : List Req} {a : Att} {n : Nat} {q : Req} (h : qs[n]? = some q) : eligF qs a n = if eligB q a then [(n : Int)] else [] := by simp [eligF, h]
theorem eligTo_le (qs : List Req) (a : Att) (n : Nat) : (upTo (eligF qs a) n).length ≤ n := upTo_le (fun k => by unfold eligF; split <;> simp) n

set_option maxRecDepth 100000 in
set_option maxHeartbeats 2000000 in
theorem Eligible_c (w : World) (p : Prg) (a : Att) (A : Option Addr) (c : Nat) (h : Rd kReq w A p.reqs) (hn : p.reqs.length ≤ 1000) :
    Calls Tryz.prog 16 #[.agg #[.string p.nm, .int .i64 p.num, .int .i64 p.uses, .int .i64 p.earn, .int .i64 p.mn, .int .i64 p.md, .slice A p.reqs.length c], .agg #[.int .i64 a.c, .int .i64 a.t, .int .i64 a.g, .int .i64 a.cam, .int .i64 a.cr]] w
      fun e w' => ∃ v, e = .returned v ∧ OwnF encI 1 3 w.heap.size w' v (eligL p.reqs a) ∧ Below w.heap.size w w' := by
  obtain ⟨pnm, pnum, puses, pearn, pmn, pmd, qs⟩ := p
  dsimp only at *
  go_enter Tryz.func16, Tryz.ntmps16
  go_wp2_with fail
  have hB := below2 w (.cells #[.string pnm, .int .i64 pnum, .int .i64 puses, .int .i64 pearn, .int .i64 pmn, .int .i64 pmd, .slice A qs.length c] 26) (.cells #[.int .i64 a.c, .int .i64 a.t, .int .i64 a.g, .int .i64 a.cam, .int .i64 a.cr] 28)
  have hb1 := blk_cell (alloc2_blk1 w (.cells #[.string pnm, .int .i64 pnum, .int .i64 puses, .int .i64 pearn, .int .i64 pmn, .int .i64 pmd, .slice A qs.length c] 26) (.cells #[.int .i64 a.c, .int .i64 a.t, .int .i64 a.g, .int .i64 a.cam, .int .i64 a.cr] 28))
  have hz := alloc2_size w (.cells #[.string pnm, .int .i64 pnum, .int .i64 puses, .int .i64 pearn, .int .i64 pmn, .int .i64 pmd, .slice A qs.length c] 26) (.cells #[.int .i64 a.c, .int .i64 a.t, .int .i64 a.g, .int .i64 a.cam, .int .i64 a.cr] 28)
  generalize (w.alloc _).alloc _ = W2 at *
  have h2 : Rd kReq W2 A qs := h.below hB
  obtain ⟨i0, hi, hz0, hz1, hz2⟩ := info_parts Tryz.info3
  go_loopw [4, 5, 6, 10] (fun v _ _ i wr => ∃ k : Nat, k ≤ qs.length ∧ i = .int .i64 k ∧ OwnF encI 1 3 W2.heap.size wr v (upTo (eligF qs a) k) ∧ Below W2.heap.size W2 wr) (fun _ _ _ i _ => qs.length - (intOf i).toNat)
  case atStart => exact ⟨0, Nat.zero_le _, rfl, OwnF.nil _ _ _ _ _, Below.refl _ _⟩
  case round =>
    obtain ⟨k, hk, rfl, hown, hBr⟩ := hrel
    have hb1r : ∀ j : Nat, wr.cell? ⟨w.heap.size + 1, j, none⟩ = _ := fun j => (hBr.cell (p := ⟨w.heap.size + 1, j, none⟩) (by simp; omega)).trans (hb1 j)
    have hsz : w.heap.size + 1 < wr.heap.size := by have := hBr.size; omega
    by_cases hlt : k < qs.length
    · obtain ⟨x, b, off, B, c', hx, rfl, hb, hc', hr, f0, f1, f2, f3, f4, f5⟩ := kReq_get (h2.below hBr) hlt
      have hel : ∀ W, Below wr.heap.size wr W → Calls Tryz.prog 40 #[.agg #[.string x.nm, .int .i64 x.cr, .int .i64 x.gr, .bool x.home, .slice x.nA x.nn x.nc, .slice B x.fr.length c'], .agg #[.int .i64 a.c, .int .i64 a.t, .int .i64 a.g, .int .i64 a.cam, .int .i64 a.cr]] W
        fun e w' => e = .returned (.bool (eligB x a)) ∧ Below W.heap.size W w' := fun W hW => eligible_c W x a B c' (hr.below hW)
      have hst : Hid (upTo (eligF qs a) (k + 1) = upTo (eligF qs a) k ++ (if eligB x a then [(k : Int)] else [])) := by show _ = _; rw [upTo, eligF_at hx.out]
      have hle := eligTo_le qs a k
      clear hb1 h h2 hB hi hz0 hz1 hz2 i0
      go_wp2_with (first
        | (go_at_call 40; refine (hel _ ((Below.refl _ _).alloc (Nat.le_refl _) _)).mono ?_; rintro e w1 ⟨rfl, hb1⟩
           have hB1 : Below W2.heap.size W2 w1 := (hBr.alloc hBr.size _).trans (hb1.mono (by simp; have := hBr.size; omega))
           have hO1 : OwnF encI 1 3 W2.heap.size w1 u4 (upTo (eligF qs a) k) := (hown.alloc _).below hb1)
        | (at_builtin; refine wpList_append1 rfl _ _ 34 rfl 3 (.int .i64 0) 8 Tryz.underlying34 Tryz.info3 rfl (by decide) encI_len encI_one W2.heap.size u4 (upTo (eligF qs a) k) rfl (hO1.alloc _) _ (k : Int) rfl ?c2 ?c3 (by decide) ?c4 ?_; rotate_left 3; intro v' w3 hown' hsz3 hB3 _ _))
      case c2 => intro j u hj; simpa [encI] using hj
      case c3 => omega
      case c4 => have := hB1.size; simp; omega
      · have hy : eligB x a = true := by assumption
        rw [if_pos hy] at hst
        exact ⟨⟨k + 1, hlt, by go_num, by rw [hst.out]; exact hown', hB3 _ _ (Nat.le_refl _) (hB1.alloc hB1.size _)⟩, by simp [intOf]; omega⟩
      · have hy : eligB x a = false := by assumption
        rw [if_neg (by simp [hy])] at hst
        exact ⟨⟨k + 1, hlt, by go_num, by rw [hst.out, List.append_nil]; exact hO1, hB1⟩, by simp [intOf]; omega⟩
    · go_wp2
      go_ret
      obtain rfl : k = qs.length := by omega
      exact ⟨u4, rfl, (hown.lower (by omega)), hB.trans (hBr.mono (by omega))⟩
end Go.Proofs.YtaiibchadlaifaaGreatDoor

namespace Go.Proofs.YtaiibchadlaifaaGreatDoor
open Go.RowKit

def ratOk (n d : Int) : Bool := decide (1 ≤ d ∧ d ≤ 1073741824 ∧ -1073741824 ≤ n ∧ n ≤ 1073741824 ∧ n.natAbs.gcd d.natAbs = 1)

theorem u64_neg (n : Int) (h1 : -1099511627776 ≤ n) (h : n < 0) : IntKind.u64.wrap (-IntKind.u64.wrap n) = (n.natAbs : Int) := by
  simp only [IntKind.wrap, IntKind.bits, IntKind.signed]
  simp
  omega
theorem u64_pos (n : Int) (h1 : n ≤ 1099511627776) (h : ¬ n < 0) : IntKind.u64.wrap n = (n.natAbs : Int) := by
  simp only [IntKind.wrap, IntKind.bits, IntKind.signed]
  simp
  omega

set_option maxHeartbeats 400000 in
theorem ratio_size_c (n : Int) (w : World) (h1 : -1099511627776 ≤ n) (h2 : n ≤ 1099511627776) : Calls Tryz.prog 134 #[.int .i64 n] w fun e w' => e = .returned (.int .u64 (n.natAbs : Int)) ∧ w = w' := by
  by_cases hn : n < 0
  · have hw := u64_neg n h1 hn
    clear h1 h2
    go_enter Tryz.func134, Tryz.ntmps134
    go_wp2
    go_ret
    exact ⟨rfl, rfl⟩
  · have hw := u64_pos n h2 hn
    clear h1 h2
    go_enter Tryz.func134, Tryz.ntmps134
    go_wp2
    go_ret
    exact ⟨rfl, rfl⟩

set_option maxHeartbeats 400000 in
theorem ref05_size_c (n : Int) (w : World) (h1 : -1099511627776 ≤ n) (h2 : n ≤ 1099511627776) : Calls Tryz.prog 78 #[.int .i64 n] w fun e w' => e = .returned (.int .u64 (n.natAbs : Int)) ∧ w = w' := by
  by_cases hn : n < 0
  · have hw := u64_neg n h1 hn
    clear h1 h2
    go_enter Tryz.func78, Tryz.ntmps78
    go_wp2
    go_ret
    exact ⟨rfl, rfl⟩
  · have hw := u64_pos n h2 hn
    clear h1 h2
    go_enter Tryz.func78, Tryz.ntmps78
    go_wp2
    go_ret
    exact ⟨rfl, rfl⟩

set_option maxHeartbeats 1000000 in
theorem ratio_step_c (B : Nat) : ∀ (y x : Nat) (w : World), w.cell? ⟨B, 0, none⟩ = some (.func (.func 133) #[] #[.pointer (some ⟨B, 0, none⟩)]) →
    Calls Tryz.prog 133 #[.int .u64 (x : Int), .int .u64 (y : Int), .pointer (some ⟨B, 0, none⟩)] w fun e w' => e = .returned (.int .u64 (x.gcd y : Nat)) ∧ ∃ m, w' = w.drewN m := by
  intro y
  induction y using Nat.strongRecOn with
  | _ y ih =>
    intro x w hc
    by_cases hy : y = 0
    · subst hy
      go_enter Tryz.func133, Tryz.ntmps133
      go_wp2
      go_ret
      exact ⟨by simp, 0, rfl⟩
    · have h0 : ((y : Int) == 0) = false := by simpa using hy
      have hlt : x % y < y := Nat.mod_lt _ (by omega)
      have hg : Hid (x.gcd y = y.gcd (x % y)) := by show _ = _; rw [Nat.gcd_comm x y, Nat.gcd_rec y x, Nat.gcd_comm]
      have hne : (1 : Int) ≤ y := by omega
      have hih : ∀ n, Calls Tryz.prog 133 #[.int .u64 (y : Int), .int .u64 ((x : Int) % (y : Int)), .pointer (some ⟨B, 0, none⟩)] (w.drewN n) fun e w' => e = .returned (.int .u64 (y.gcd (x % y) : Nat)) ∧ ∃ m, w' = (w.drewN n).drewN m := fun n => by
        have := ih (x % y) hlt y (w.drewN n) hc
        rwa [Int.natCast_emod] at this
      clear ih
      go_enter Tryz.func133, Tryz.ntmps133
      go_wp2
      go_quiet ((go_at_call 133; exact qd (hih _)))
      go_wp2
      go_ret
      exact ⟨by rw [hg.out]; rfl, _, rfl⟩

set_option maxRecDepth 100000 in
set_option maxHeartbeats 1000000 in
theorem ratio_common_c (a b : Int) (w : World) (ha1 : -1099511627776 ≤ a) (ha2 : a ≤ 1099511627776) (hb1 : -1099511627776 ≤ b) (hb2 : b ≤ 1099511627776) :
    Calls Tryz.prog 76 #[.int .i64 a, .int .i64 b] w fun e w' => e = .returned (.int .u64 (a.natAbs.gcd b.natAbs : Nat)) ∧ Below w.heap.size w w' := by
  go_enter Tryz.func76, Tryz.ntmps76
  go_wp2
  go_quiet ((first | (go_at_call 134; exact q0 (ratio_size_c _ _ (by assumption) (by assumption))) | (go_at_call 133; exact qd (ratio_step_c _ _ _ _ (by simp)))))
  go_wp2
  go_ret
  exact ⟨rfl, bthen (below1 _ _) (below_drewN _ _)⟩

def ratE (n d : Int) : Int := if ratOk n d then 0 else 50
theorem ratE_no {n d : Int} (h : ¬ (1 ≤ d ∧ d ≤ 1073741824 ∧ -1073741824 ≤ n ∧ n ≤ 1073741824)) : ratE n d = 50 := by
  unfold ratE ratOk; rw [if_neg (by simp; omega)]
theorem ratE_gcd {n d : Int} (h : 1 ≤ d ∧ d ≤ 1073741824 ∧ -1073741824 ≤ n ∧ n ≤ 1073741824) (g : Nat) (hg : n.natAbs.gcd d.natAbs = g) : ratE n d = if g = 1 then 0 else 50 := by
  subst hg; unfold ratE ratOk; by_cases h1 : n.natAbs.gcd d.natAbs = 1 <;> simp [h1, h]

set_option maxRecDepth 100000 in
set_option maxHeartbeats 1000000 in
theorem ratio_Check_c (n d : Int) (w : World) :
    Calls Tryz.prog 38 #[.agg #[.int .i64 n, .int .i64 d]] w fun e w' => e = .returned (.int .i64 (ratE n d)) ∧ Below w.heap.size w w' := by
  by_cases h : 1 ≤ d ∧ d ≤ 1073741824 ∧ -1073741824 ≤ n ∧ n ≤ 1073741824
  · obtain ⟨h1, h2, h3, h4⟩ := h
    obtain ⟨g, hg⟩ : ∃ g, n.natAbs.gcd d.natAbs = g := ⟨_, rfl⟩
    have hE : Hid (ratE n d = if g = 1 then 0 else 50) := ratE_gcd ⟨h1, h2, h3, h4⟩ g hg
    have hcm := fun W => ratio_common_c n d W (by omega) (by omega) (by omega) (by omega)
    rw [hg] at hcm
    clear hg
    go_enter Tryz.func38, Tryz.ntmps38
    go_wp2_with (go_at_call 76; refine (hcm _).mono ?_; rintro e w1 ⟨rfl, hb1⟩)
    · have hc : (((d < 1 ∨ 1073741824 < d) ∨ n < -1073741824) ∨ 1073741824 < n) ∨ ((g : Int) != 1) = true := by assumption
      have hg1 : ¬ g = 1 := by rintro rfl; simp at hc; omega
      go_ret
      exact ⟨ret_congr (by rw [hE.out, if_neg hg1]; rfl), bthen (below1 _ _) hb1⟩
    · have hc : (((1 ≤ d ∧ d ≤ 1073741824) ∧ -1073741824 ≤ n) ∧ n ≤ 1073741824) ∧ ((g : Int) != 1) = false := by assumption
      have hg1 : g = 1 := by have := hc.2; simp at this; omega
      go_ret
      exact ⟨ret_congr (by rw [hE.out, if_pos hg1]; rfl), bthen (below1 _ _) hb1⟩
  · have hE : Hid (ratE n d = 50) := ratE_no h
    by_cases h1 : d < 1
    · (go_enter Tryz.func38, Tryz.ntmps38; go_wp2_with fail; go_ret; exact ⟨ret_congr (by rw [hE.out]; rfl), below1 _ _⟩)
    by_cases h2 : 1073741824 < d
    · (go_enter Tryz.func38, Tryz.ntmps38; go_wp2_with fail; go_ret; exact ⟨ret_congr (by rw [hE.out]; rfl), below1 _ _⟩)
    by_cases h3 : n < -1073741824
    · (go_enter Tryz.func38, Tryz.ntmps38; go_wp2_with fail; go_ret; exact ⟨ret_congr (by rw [hE.out]; rfl), below1 _ _⟩)
    by_cases h4 : 1073741824 < n
    · (go_enter Tryz.func38, Tryz.ntmps38; go_wp2_with fail; go_ret; exact ⟨ret_congr (by rw [hE.out]; rfl), below1 _ _⟩)
    exact absurd (by omega) h

set_option maxRecDepth 100000 in
set_option maxHeartbeats 1000000 in
theorem ref05_common_c (x y : Nat) (w : World) :
    Calls Tryz.prog 77 #[.int .u64 (x : Int), .int .u64 (y : Int)] w fun e w' => e = .returned (.int .u64 (x.gcd y : Nat)) ∧ ∃ m, w' = w.drewN m := by
  go_enter Tryz.func77, Tryz.ntmps77
  go_wp2
  go_loopw [0, 1] (fun a b wr => ∃ p q : Nat, a = .int .u64 p ∧ b = .int .u64 q ∧ Hid (p.gcd q = x.gcd y) ∧ ∃ m, wr = w.drewN m) (fun _ b _ => (intOf b).toNat)
  case atStart => exact ⟨x, y, rfl, rfl, rfl, 0, rfl⟩
  case round =>
    obtain ⟨p, q, rfl, rfl, hg, m, rfl⟩ := hrel
    by_cases hq : q = 0
    · subst hq
      go_wp2
      go_ret
      exact ⟨ret_congr (by rw [← hg.out]; simp), m, rfl⟩
    · have hq1 : (1 : Int) ≤ q := by omega
      have hlt : p % q < q := Nat.mod_lt _ (by omega)
      have hg2 : Hid (q.gcd (p % q) = x.gcd y) := by show _ = _; rw [← hg.out, Nat.gcd_comm p q, Nat.gcd_rec q p, Nat.gcd_comm]
      go_wp2
      go_quiet (fail)
      go_wp2
      go_roundw
      case rel => exact ⟨q, p % q, rfl, by rw [Int.natCast_emod], hg2, _, World.drewN_drewN _ _ _⟩
      case measure => simp [intOf]; omega

set_option maxRecDepth 100000 in
set_option maxHeartbeats 1000000 in
theorem ref05_Check_c (n d : Int) (w : World) :
    Calls Tryz.prog 39 #[.agg #[.int .i64 n, .int .i64 d]] w fun e w' => e = .returned (.int .i64 (ratE n d)) ∧ Below w.heap.size w w' := by
  by_cases h : 1 ≤ d ∧ d ≤ 1073741824 ∧ -1073741824 ≤ n ∧ n ≤ 1073741824
  · obtain ⟨h1, h2, h3, h4⟩ := h
    obtain ⟨g, hg⟩ : ∃ g, n.natAbs.gcd d.natAbs = g := ⟨_, rfl⟩
    have hE : Hid (ratE n d = if g = 1 then 0 else 50) := ratE_gcd ⟨h1, h2, h3, h4⟩ g hg
    have hsz := fun (k : Int) (W : World) (a : -1073741824 ≤ k) (b : k ≤ 1073741824) => ref05_size_c k W (by omega) (by omega)
    have hcm := fun W => ref05_common_c n.natAbs d.natAbs W
    rw [hg] at hcm
    clear hg
    have e1 : decide (d < 1) = false := decide_eq_false (by omega)
    have e2 : decide (1073741824 < d) = false := decide_eq_false (by omega)
    have e3 : decide (n < -1073741824) = false := decide_eq_false (by omega)
    have e4 : decide (1073741824 < n) = false := decide_eq_false (by omega)
    have h0 : -1073741824 ≤ d := by omega
    go_enter Tryz.func39, Tryz.ntmps39
    go_wp2_with fail
    go_quiet ((first | (go_at_call 78; exact q0 (hsz _ _ (by assumption) (by assumption))) | (go_at_call 77; exact qd (hcm _))))
    go_wp2
    · have hc : ((g : Int) != 1) = true := by assumption
      have hg1 : ¬ g = 1 := by rintro rfl; simp at hc
      go_ret
      exact ⟨ret_congr (by rw [hE.out, if_neg hg1]; rfl), bthen (below1 _ _) (below_drewN _ _)⟩
    · have hc : ((g : Int) != 1) = false := by assumption
      have hg1 : g = 1 := by simp at hc; omega
      go_ret
      exact ⟨ret_congr (by rw [hE.out, if_pos hg1]; rfl), bthen (below1 _ _) (below_drewN _ _)⟩
  · have hE : Hid (ratE n d = 50) := ratE_no h
    by_cases c0 : d < 1
    · (have e1 : decide (d < 1) = true := decide_eq_true (by omega); go_enter Tryz.func39, Tryz.ntmps39; go_wp2_with fail; go_quiet (fail); go_wp2; go_ret; exact ⟨ret_congr (by rw [hE.out]; rfl), bthen (below1 _ _) (below_drewN _ _)⟩)
    by_cases c1 : 1073741824 < d
    · (have e1 : decide (d < 1) = false := decide_eq_false (by omega); have e2 : decide (1073741824 < d) = true := decide_eq_true (by omega); go_enter Tryz.func39, Tryz.ntmps39; go_wp2_with fail; go_quiet (fail); go_wp2; go_ret; exact ⟨ret_congr (by rw [hE.out]; rfl), bthen (below1 _ _) (below_drewN _ _)⟩)
    by_cases c2 : n < -1073741824
    · (have e1 : decide (d < 1) = false := decide_eq_false (by omega); have e2 : decide (1073741824 < d) = false := decide_eq_false (by omega); have e3 : decide (n < -1073741824) = true := decide_eq_true (by omega); go_enter Tryz.func39, Tryz.ntmps39; go_wp2_with fail; go_quiet (fail); go_wp2; go_ret; exact ⟨ret_congr (by rw [hE.out]; rfl), bthen (below1 _ _) (below_drewN _ _)⟩)
    by_cases c3 : 1073741824 < n
    · (have e1 : decide (d < 1) = false := decide_eq_false (by omega); have e2 : decide (1073741824 < d) = false := decide_eq_false (by omega); have e3 : decide (n < -1073741824) = false := decide_eq_false (by omega); have e4 : decide (1073741824 < n) = true := decide_eq_true (by omega); go_enter Tryz.func39, Tryz.ntmps39; go_wp2_with fail; go_quiet (fail); go_wp2; go_ret; exact ⟨ret_congr (by rw [hE.out]; rfl), bthen (below1 _ _) (below_drewN _ _)⟩)
    exact absurd (by omega) h
end Go.Proofs.YtaiibchadlaifaaGreatDoor

namespace Go.Proofs.YtaiibchadlaifaaGreatDoor
open Go.RowKit

set_option maxRecDepth 100000 in
set_option maxHeartbeats 1000000 in
theorem dc_index_c (w : World) (A : Option Addr) (cap : Nat) (xs : List Int)  (h : Rd kI w A xs)
    (hf : ∀ (W : World) (x : Int), x ∈ xs → Below w.heap.size w W → Calls Tryz.prog 37 #[.int .i64 x] W fun e w' => e = .returned (.bool (!inB x 0 4095)) ∧ Below W.heap.size W w') :
    Calls Tryz.prog 75 #[.slice A xs.length cap, .func (.func 37) #[] #[]] w fun e w' => (∃ r : Int, e = .returned (.int .i64 r) ∧ decide (0 ≤ r) = xs.any fun x => !inB x 0 4095) ∧ Below w.heap.size w w' := by
  have hl := h.len
  go_enter Tryz.func75, Tryz.ntmps75
  go_wp2
  go_loopw [5, 8] (fun _ i wr => ∃ k : Nat, k ≤ xs.length ∧ i = .int .i64 k ∧ Hid (((xs.take k).any fun x => !inB x 0 4095) = false) ∧ Below w.heap.size w wr) (fun _ i _ => xs.length - (intOf i).toNat)
  case atStart => exact ⟨0, Nat.zero_le _, rfl, rfl, Below.refl _ _⟩
  case round =>
    obtain ⟨k, hk, rfl, hno, hB⟩ := hrel
    by_cases hlt : k < xs.length
    · obtain ⟨x, b, off, hx, rfl, hb, f0⟩ := kI_get (h.below hB) hlt
      have ht : Hid (((xs.take (k + 1)).any fun x => !inB x 0 4095) = !inB x 0 4095) := by
        show _ = _
        rw [take_snoc_get hx.out, List.any_append, hno.out]; simp
      have hc := hf wr x (List.mem_of_getElem? hx.out) hB
      obtain ⟨r, hr⟩ : ∃ r, (!inB x 0 4095) = r := ⟨_, rfl⟩
      rw [hr] at hc
      have ht : Hid (((xs.take (k + 1)).any fun x => !inB x 0 4095) = r) := by show _ = _; rw [ht.out, hr]
      clear hr hf h
      cases r with
      | true =>
        go_wp2_with (go_at_call 37; refine hc.mono ?_; rintro e w1 ⟨rfl, hb1⟩)
        go_ret
        refine ⟨⟨_, rfl, ?_⟩, bthen hB hb1⟩
        have hall : (xs.any fun x => !inB x 0 4095) = true := by
          have h2 := ht.out; rw [List.any_eq_true] at *; obtain ⟨y, hy, h3⟩ := h2; exact ⟨y, List.mem_of_mem_take hy, h3⟩
        rw [hall]; simp
      | false =>
        go_wp2_with (go_at_call 37; refine hc.mono ?_; rintro e w1 ⟨rfl, hb1⟩)
        go_roundw
        case rel => exact ⟨k + 1, hlt, by go_num, ht, bthen hB hb1⟩
        case measure => simp [intOf]; omega
    · go_wp2
      go_ret
      refine ⟨⟨_, rfl, ?_⟩, hB⟩
      have := hno.out; rw [List.take_of_length_le (by omega)] at this; rw [this]; simp
set_option maxRecDepth 100000 in
set_option maxHeartbeats 1000000 in
theorem dc_contains_c (w : World) (A : Option Addr) (cap : Nat) (xs : List Int)  (h : Rd kI w A xs)
    (hf : ∀ (W : World) (x : Int), x ∈ xs → Below w.heap.size w W → Calls Tryz.prog 37 #[.int .i64 x] W fun e w' => e = .returned (.bool (!inB x 0 4095)) ∧ Below W.heap.size W w') :
    Calls Tryz.prog 36 #[.slice A xs.length cap, .func (.func 37) #[] #[]] w fun e w' => e = .returned (.bool (xs.any fun x => !inB x 0 4095)) ∧ Below w.heap.size w w' := by
  have hc := dc_index_c w A cap xs  h hf
  clear hf h
  go_enter Tryz.func36, Tryz.ntmps36
  go_wp2_with (go_at_call 75; refine hc.mono ?_; rintro e w1 ⟨⟨r, rfl, hr⟩, hb1⟩)
  go_ret
  exact ⟨ret_congr (by simp [← hr]), hb1⟩

set_option maxRecDepth 100000 in
set_option maxHeartbeats 1000000 in
theorem ac_index_c (w : World) (A : Option Addr) (cap : Nat) (xs : List Att)  (h : Rd kAtt w A xs)
    (hf : ∀ (W : World) (x : Att), x ∈ xs → Below w.heap.size w W → Calls Tryz.prog 137 #[.agg #[.int .i64 x.c, .int .i64 x.t, .int .i64 x.g, .int .i64 x.cam, .int .i64 x.cr]] W fun e w' => e = .returned (.bool (!attOk x)) ∧ Below W.heap.size W w') :
    Calls Tryz.prog 175 #[.slice A xs.length cap, .func (.func 137) #[] #[]] w fun e w' => (∃ r : Int, e = .returned (.int .i64 r) ∧ decide (0 ≤ r) = xs.any fun x => !attOk x) ∧ Below w.heap.size w w' := by
  have hl := h.len
  go_enter Tryz.func175, Tryz.ntmps175
  go_wp2
  go_loopw [5, 8] (fun _ i wr => ∃ k : Nat, k ≤ xs.length ∧ i = .int .i64 k ∧ Hid (((xs.take k).any fun x => !attOk x) = false) ∧ Below w.heap.size w wr) (fun _ i _ => xs.length - (intOf i).toNat)
  case atStart => exact ⟨0, Nat.zero_le _, rfl, rfl, Below.refl _ _⟩
  case round =>
    obtain ⟨k, hk, rfl, hno, hB⟩ := hrel
    by_cases hlt : k < xs.length
    · obtain ⟨x, b, off, hx, rfl, hb, f0, f1, f2, f3, f4⟩ := kAtt_get (h.below hB) hlt
      have ht : Hid (((xs.take (k + 1)).any fun x => !attOk x) = !attOk x) := by
        show _ = _
        rw [take_snoc_get hx.out, List.any_append, hno.out]; simp
      have hc := hf wr x (List.mem_of_getElem? hx.out) hB
      obtain ⟨r, hr⟩ : ∃ r, (!attOk x) = r := ⟨_, rfl⟩
      rw [hr] at hc
      have ht : Hid (((xs.take (k + 1)).any fun x => !attOk x) = r) := by show _ = _; rw [ht.out, hr]
      clear hr hf h
      cases r with
      | true =>
        go_wp2_with (go_at_call 137; refine hc.mono ?_; rintro e w1 ⟨rfl, hb1⟩)
        go_ret
        refine ⟨⟨_, rfl, ?_⟩, bthen hB hb1⟩
        have hall : (xs.any fun x => !attOk x) = true := by
          have h2 := ht.out; rw [List.any_eq_true] at *; obtain ⟨y, hy, h3⟩ := h2; exact ⟨y, List.mem_of_mem_take hy, h3⟩
        rw [hall]; simp
      | false =>
        go_wp2_with (go_at_call 137; refine hc.mono ?_; rintro e w1 ⟨rfl, hb1⟩)
        go_roundw
        case rel => exact ⟨k + 1, hlt, by go_num, ht, bthen hB hb1⟩
        case measure => simp [intOf]; omega
    · go_wp2
      go_ret
      refine ⟨⟨_, rfl, ?_⟩, hB⟩
      have := hno.out; rw [List.take_of_length_le (by omega)] at this; rw [this]; simp
set_option maxRecDepth 100000 in
set_option maxHeartbeats 1000000 in
theorem ac_contains_c (w : World) (A : Option Addr) (cap : Nat) (xs : List Att)  (h : Rd kAtt w A xs)
    (hf : ∀ (W : World) (x : Att), x ∈ xs → Below w.heap.size w W → Calls Tryz.prog 137 #[.agg #[.int .i64 x.c, .int .i64 x.t, .int .i64 x.g, .int .i64 x.cam, .int .i64 x.cr]] W fun e w' => e = .returned (.bool (!attOk x)) ∧ Below W.heap.size W w') :
    Calls Tryz.prog 136 #[.slice A xs.length cap, .func (.func 137) #[] #[]] w fun e w' => e = .returned (.bool (xs.any fun x => !attOk x)) ∧ Below w.heap.size w w' := by
  have hc := ac_index_c w A cap xs  h hf
  clear hf h
  go_enter Tryz.func136, Tryz.ntmps136
  go_wp2_with (go_at_call 175; refine hc.mono ?_; rintro e w1 ⟨⟨r, rfl, hr⟩, hb1⟩)
  go_ret
  exact ⟨ret_congr (by simp [← hr]), hb1⟩

set_option maxRecDepth 100000 in
set_option maxHeartbeats 1000000 in
theorem ec_index_c (w : World) (A : Option Addr) (cap : Nat) (xs : List Edge) (B : Nat) (n : Int) (h : Rd kEdge w A xs)
    (hf : ∀ (W : World) (x : Edge), x ∈ xs → Below w.heap.size w W → Calls Tryz.prog 174 #[.agg #[.int .i64 x.f, .int .i64 x.t, .int .i64 x.m], .pointer (some ⟨B, 0, none⟩)] W fun e w' => e = .returned (.bool (!edgeOk n x)) ∧ Below W.heap.size W w') :
    Calls Tryz.prog 204 #[.slice A xs.length cap, .func (.func 174) #[] #[.pointer (some ⟨B, 0, none⟩)]] w fun e w' => (∃ r : Int, e = .returned (.int .i64 r) ∧ decide (0 ≤ r) = xs.any fun x => !edgeOk n x) ∧ Below w.heap.size w w' := by
  have hl := h.len
  go_enter Tryz.func204, Tryz.ntmps204
  go_wp2
  go_loopw [5, 8] (fun _ i wr => ∃ k : Nat, k ≤ xs.length ∧ i = .int .i64 k ∧ Hid (((xs.take k).any fun x => !edgeOk n x) = false) ∧ Below w.heap.size w wr) (fun _ i _ => xs.length - (intOf i).toNat)
  case atStart => exact ⟨0, Nat.zero_le _, rfl, rfl, Below.refl _ _⟩
  case round =>
    obtain ⟨k, hk, rfl, hno, hB⟩ := hrel
    by_cases hlt : k < xs.length
    · obtain ⟨x, b, off, hx, rfl, hb, f0, f1, f2⟩ := kEdge_get (h.below hB) hlt
      have ht : Hid (((xs.take (k + 1)).any fun x => !edgeOk n x) = !edgeOk n x) := by
        show _ = _
        rw [take_snoc_get hx.out, List.any_append, hno.out]; simp
      have hc := hf wr x (List.mem_of_getElem? hx.out) hB
      obtain ⟨r, hr⟩ : ∃ r, (!edgeOk n x) = r := ⟨_, rfl⟩
      rw [hr] at hc
      have ht : Hid (((xs.take (k + 1)).any fun x => !edgeOk n x) = r) := by show _ = _; rw [ht.out, hr]
      clear hr hf h
      cases r with
      | true =>
        go_wp2_with (go_at_call 174; refine hc.mono ?_; rintro e w1 ⟨rfl, hb1⟩)
        go_ret
        refine ⟨⟨_, rfl, ?_⟩, bthen hB hb1⟩
        have hall : (xs.any fun x => !edgeOk n x) = true := by
          have h2 := ht.out; rw [List.any_eq_true] at *; obtain ⟨y, hy, h3⟩ := h2; exact ⟨y, List.mem_of_mem_take hy, h3⟩
        rw [hall]; simp
      | false =>
        go_wp2_with (go_at_call 174; refine hc.mono ?_; rintro e w1 ⟨rfl, hb1⟩)
        go_roundw
        case rel => exact ⟨k + 1, hlt, by go_num, ht, bthen hB hb1⟩
        case measure => simp [intOf]; omega
    · go_wp2
      go_ret
      refine ⟨⟨_, rfl, ?_⟩, hB⟩
      have := hno.out; rw [List.take_of_length_le (by omega)] at this; rw [this]; simp
set_option maxRecDepth 100000 in
set_option maxHeartbeats 1000000 in
theorem ec_contains_c (w : World) (A : Option Addr) (cap : Nat) (xs : List Edge) (B : Nat) (n : Int) (h : Rd kEdge w A xs)
    (hf : ∀ (W : World) (x : Edge), x ∈ xs → Below w.heap.size w W → Calls Tryz.prog 174 #[.agg #[.int .i64 x.f, .int .i64 x.t, .int .i64 x.m], .pointer (some ⟨B, 0, none⟩)] W fun e w' => e = .returned (.bool (!edgeOk n x)) ∧ Below W.heap.size W w') :
    Calls Tryz.prog 173 #[.slice A xs.length cap, .func (.func 174) #[] #[.pointer (some ⟨B, 0, none⟩)]] w fun e w' => e = .returned (.bool (xs.any fun x => !edgeOk n x)) ∧ Below w.heap.size w w' := by
  have hc := ec_index_c w A cap xs B n h hf
  clear hf h
  go_enter Tryz.func173, Tryz.ntmps173
  go_wp2_with (go_at_call 204; refine hc.mono ?_; rintro e w1 ⟨⟨r, rfl, hr⟩, hb1⟩)
  go_ret
  exact ⟨ret_congr (by simp [← hr]), hb1⟩
end Go.Proofs.YtaiibchadlaifaaGreatDoor

namespace Go.Proofs.YtaiibchadlaifaaGreatDoor
open Go.RowKit

set_option maxHeartbeats 400000 in
theorem average_within_c (n lo hi : Int) (w : World) : Calls Tryz.prog 176 #[.int .i64 n, .int .i64 lo, .int .i64 hi] w fun e w' => e = .returned (.bool (inB n lo hi)) ∧ w = w' := by
  go_enter Tryz.func176, Tryz.ntmps176
  go_wp2
  all_goals (go_ret; exact ⟨by simp [inB]; omega, rfl⟩)

set_option maxRecDepth 100000 in
set_option maxHeartbeats 2000000 in
theorem average_fits_c (a : Att) (w : World) :
    Calls Tryz.prog 138 #[.agg #[.int .i64 a.c, .int .i64 a.t, .int .i64 a.g, .int .i64 a.cam, .int .i64 a.cr]] w fun e w' => e = .returned (.bool (attOk a)) ∧ Below w.heap.size w w' := by
  go_enter Tryz.func138, Tryz.ntmps138
  go_wp2_with (go_at_call 176; refine (average_within_c _ _ _ _).mono ?_; rintro e w1 ⟨rfl, rfl⟩)
  all_goals (go_ret; exact ⟨ret_congr (by simp [attOk, *]), below1 _ _⟩)

set_option maxHeartbeats 1000000 in
theorem average_check1_c (a : Att) (w : World) :
    Calls Tryz.prog 137 #[.agg #[.int .i64 a.c, .int .i64 a.t, .int .i64 a.g, .int .i64 a.cam, .int .i64 a.cr]] w fun e w' => e = .returned (.bool (!attOk a)) ∧ Below w.heap.size w w' := by
  have hc := fun W => average_fits_c a W
  go_enter Tryz.func137, Tryz.ntmps137
  go_wp2_with (go_at_call 138; refine (hc _).mono ?_; rintro e w1 ⟨rfl, hb1⟩)
  go_ret
  exact ⟨rfl, bthen (below1 _ _) hb1⟩

def attsE (l : List Att) : Int := if l.all attOk then 0 else 150
theorem any_not {α : Type} (p : α → Bool) (l : List α) : (l.any fun x => !p x) = !l.all p := by
  induction l with
  | nil => rfl
  | cons x xs ih => simp only [List.any_cons, List.all_cons, ih, Bool.not_and]

set_option maxHeartbeats 1000000 in
theorem average_check_c (w : World) (A : Option Addr) (cap : Nat) (l : List Att) (h : Rd kAtt w A l) :
    Calls Tryz.prog 80 #[.slice A l.length cap] w fun e w' => e = .returned (.int .i64 (attsE l)) ∧ Below w.heap.size w w' := by
  have hc := ac_contains_c w A cap l h (fun W x _ _ => average_check1_c x W)
  rw [any_not] at hc
  obtain ⟨r, hr⟩ : ∃ r, l.all attOk = r := ⟨_, rfl⟩
  have hE : Hid (attsE l = if r then 0 else 150) := by show _ = _; rw [attsE, hr]
  rw [hr] at hc
  clear hr h
  cases r with
  | true =>
    go_enter Tryz.func80, Tryz.ntmps80
    go_wp2_with (go_at_call 136; refine hc.mono ?_; rintro e w1 ⟨rfl, hb1⟩)
    go_ret
    exact ⟨ret_congr (by rw [hE.out]; rfl), hb1⟩
  | false =>
    go_enter Tryz.func80, Tryz.ntmps80
    go_wp2_with (go_at_call 136; refine hc.mono ?_; rintro e w1 ⟨rfl, hb1⟩)
    go_ret
    exact ⟨ret_congr (by rw [hE.out]; rfl), hb1⟩

def reqOk (q : Req) : Bool := inB q.cr 1 10000 && inB q.gr 0 12 && q.fr.all fun c => inB c 0 4095

set_option maxHeartbeats 1000000 in
theorem degree_Check11_c (c : Int) (w : World) :
    Calls Tryz.prog 37 #[.int .i64 c] w fun e w' => e = .returned (.bool (!inB c 0 4095)) ∧ Below w.heap.size w w' := by
  go_enter Tryz.func37, Tryz.ntmps37
  go_wp2_with (go_at_call 35; refine (degree_within_c _ _ _ _).mono ?_; rintro e w1 ⟨rfl, rfl⟩)
  go_ret
  exact ⟨rfl, Below.refl _ _⟩

set_option maxRecDepth 100000 in
set_option maxHeartbeats 2000000 in
theorem degree_Check1_c (w : World) (q : Req) (A : Option Addr) (c : Nat) (h : Rd kI w A q.fr) :
    Calls Tryz.prog 34 #[.agg #[.string q.nm, .int .i64 q.cr, .int .i64 q.gr, .bool q.home, .slice q.nA q.nn q.nc, .slice A q.fr.length c]] w
      fun e w' => e = .returned (.bool (reqOk q)) ∧ Below w.heap.size w w' := by
  have hc : ∀ W, Below w.heap.size w W → Calls Tryz.prog 36 #[.slice A q.fr.length c, .func (.func 37) #[] #[]] W fun e w' => e = .returned (.bool (!q.fr.all fun c => inB c 0 4095)) ∧ Below W.heap.size W w' :=
    fun W hb => by have := dc_contains_c W A c q.fr (h.below hb) (fun W x _ _ => degree_Check11_c x W); rwa [any_not] at this
  obtain ⟨r, hr⟩ : ∃ r, (q.fr.all fun c => inB c 0 4095) = r := ⟨_, rfl⟩
  have hE : Hid (reqOk q = (inB q.cr 1 10000 && inB q.gr 0 12 && r)) := by show _ = _; rw [reqOk, hr]
  rw [hr] at hc
  clear hr h
  obtain ⟨qnm, qcr, qgr, qh, qA, qn, qc, qf⟩ := q
  dsimp only at *
  go_enter Tryz.func34, Tryz.ntmps34
  go_wp2_with (first
    | (go_at_call 35; refine (degree_within_c _ _ _ _).mono ?_; rintro e w1 ⟨rfl, rfl⟩)
    | (go_at_call 36; refine (hc _ (below1 _ _)).mono ?_; rintro e w1 ⟨rfl, hb1⟩))
  all_goals (go_ret; refine ⟨ret_congr (by rw [hE.out]; simp [*]), by first | exact below1 _ _ | exact bthen (below1 _ _) hb1⟩)

def prgHead (p : Prg) : Bool := inB p.num 0 255 && inB p.uses 1 4 && inB p.earn 0 10000 && ratOk p.mn p.md && inB p.mn 0 (12 * p.md) && decide (p.reqs.length ≤ 64)
def prgE (p : Prg) : Int := if prgHead p && p.reqs.all reqOk then 0 else 190
theorem ratE_ne (n d : Int) : (ratE n d != 0) = !ratOk n d := by unfold ratE; cases ratOk n d <;> rfl

end Go.Proofs.YtaiibchadlaifaaGreatDoor

namespace Go.Proofs.YtaiibchadlaifaaGreatDoor
open Go.RowKit

set_option maxRecDepth 100000 in
set_option maxHeartbeats 4000000 in
theorem degree_Check_c (w : World) (p : Prg) (A : Option Addr) (c : Nat) (h : Rd kReq w A p.reqs) :
    Calls Tryz.prog 13 #[.agg #[.string p.nm, .int .i64 p.num, .int .i64 p.uses, .int .i64 p.earn, .int .i64 p.mn, .int .i64 p.md, .slice A p.reqs.length c]] w
      fun e w' => e = .returned (.int .i64 (prgE p)) ∧ Below w.heap.size w w' := by
  have hl := h.len
  obtain ⟨nm, num, uses, earn, mn, md, qs⟩ := p
  dsimp only at *
  cases e1 : inB num 0 255 with
  | false =>
    have hE : Hid (prgE ⟨nm, num, uses, earn, mn, md, qs⟩ = 190) := by show _ = _; simp [prgE, prgHead, *]
    go_enter Tryz.func13, Tryz.ntmps13
    go_wp2_with (first | (go_at_call 35; refine (degree_within_c _ _ _ _).mono ?_; rintro e w1 ⟨rfl, rfl⟩) | (go_at_call 38; refine (ratio_Check_c _ _ _).mono ?_; rintro e w2 ⟨rfl, hb1⟩; have hc1 := (bcell hb1).1; have hz1 : w.heap.size < w2.heap.size := by have := hb1.size; simp at this; omega))
    go_ret
    exact ⟨ret_congr (by rw [hE.out]; rfl), by first | exact below1 _ _ | exact bthen (below1 _ _) hb1⟩
  | true =>
  cases e2 : inB uses 1 4 with
  | false =>
    have hE : Hid (prgE ⟨nm, num, uses, earn, mn, md, qs⟩ = 190) := by show _ = _; simp [prgE, prgHead, *]
    go_enter Tryz.func13, Tryz.ntmps13
    go_wp2_with (first | (go_at_call 35; refine (degree_within_c _ _ _ _).mono ?_; rintro e w1 ⟨rfl, rfl⟩) | (go_at_call 38; refine (ratio_Check_c _ _ _).mono ?_; rintro e w2 ⟨rfl, hb1⟩; have hc1 := (bcell hb1).1; have hz1 : w.heap.size < w2.heap.size := by have := hb1.size; simp at this; omega))
    go_ret
    exact ⟨ret_congr (by rw [hE.out]; rfl), by first | exact below1 _ _ | exact bthen (below1 _ _) hb1⟩
  | true =>
  cases e3 : inB earn 0 10000 with
  | false =>
    have hE : Hid (prgE ⟨nm, num, uses, earn, mn, md, qs⟩ = 190) := by show _ = _; simp [prgE, prgHead, *]
    go_enter Tryz.func13, Tryz.ntmps13
    go_wp2_with (first | (go_at_call 35; refine (degree_within_c _ _ _ _).mono ?_; rintro e w1 ⟨rfl, rfl⟩) | (go_at_call 38; refine (ratio_Check_c _ _ _).mono ?_; rintro e w2 ⟨rfl, hb1⟩; have hc1 := (bcell hb1).1; have hz1 : w.heap.size < w2.heap.size := by have := hb1.size; simp at this; omega))
    go_ret
    exact ⟨ret_congr (by rw [hE.out]; rfl), by first | exact below1 _ _ | exact bthen (below1 _ _) hb1⟩
  | true =>
  cases e4 : ratOk mn md with
  | false =>
    have e4' : ratE mn md = 50 := by unfold ratE; rw [e4]; rfl
    have hE : Hid (prgE ⟨nm, num, uses, earn, mn, md, qs⟩ = 190) := by show _ = _; simp [prgE, prgHead, *]
    go_enter Tryz.func13, Tryz.ntmps13
    go_wp2_with (first | (go_at_call 35; refine (degree_within_c _ _ _ _).mono ?_; rintro e w1 ⟨rfl, rfl⟩) | (go_at_call 38; refine (ratio_Check_c _ _ _).mono ?_; rintro e w2 ⟨rfl, hb1⟩; have hc1 := (bcell hb1).1; have hz1 : w.heap.size < w2.heap.size := by have := hb1.size; simp at this; omega))
    go_ret
    exact ⟨ret_congr (by rw [hE.out]; rfl), by first | exact below1 _ _ | exact bthen (below1 _ _) hb1⟩
  | true =>
  have e4' : ratE mn md = 0 := by unfold ratE; rw [e4]; rfl
  have hm : 1 ≤ md ∧ md ≤ 1073741824 := by unfold ratOk at e4; rw [decide_eq_true_eq] at e4; omega
  obtain ⟨m1, m2⟩ := hm
  cases e5 : inB mn 0 (12 * md) with
  | false =>
    have hE : Hid (prgE ⟨nm, num, uses, earn, mn, md, qs⟩ = 190) := by show _ = _; simp [prgE, prgHead, *]
    go_enter Tryz.func13, Tryz.ntmps13
    go_wp2_with (first | (go_at_call 35; refine (degree_within_c _ _ _ _).mono ?_; rintro e w1 ⟨rfl, rfl⟩) | (go_at_call 38; refine (ratio_Check_c _ _ _).mono ?_; rintro e w2 ⟨rfl, hb1⟩; have hc1 := (bcell hb1).1; have hz1 : w.heap.size < w2.heap.size := by have := hb1.size; simp at this; omega))
    go_ret
    exact ⟨ret_congr (by rw [hE.out]; rfl), by first | exact below1 _ _ | exact bthen (below1 _ _) hb1⟩
  | true =>
  by_cases e6 : 64 < qs.length
  · have hE : Hid (prgE ⟨nm, num, uses, earn, mn, md, qs⟩ = 190) := by
      show _ = _
      simp only [prgE, prgHead, e1, e2, e3, e4, e5, decide_eq_false (show ¬ qs.length ≤ 64 by omega)]
      rfl
    clear e4
    go_enter Tryz.func13, Tryz.ntmps13
    go_wp2_with (first | (go_at_call 35; refine (degree_within_c _ _ _ _).mono ?_; rintro e w1 ⟨rfl, rfl⟩) | (go_at_call 38; refine (ratio_Check_c _ _ _).mono ?_; rintro e w2 ⟨rfl, hb1⟩; have hc1 := (bcell hb1).1; have hz1 : w.heap.size < w2.heap.size := by have := hb1.size; simp at this; omega))
    go_ret
    exact ⟨ret_congr (by rw [hE.out]; rfl), by first | exact below1 _ _ | exact bthen (below1 _ _) hb1⟩
  have hE : Hid (prgE ⟨nm, num, uses, earn, mn, md, qs⟩ = if qs.all reqOk then 0 else 190) := by
    show _ = _
    simp only [prgE, prgHead, e1, e2, e3, e4, e5, decide_eq_true (show qs.length ≤ 64 by omega), Bool.true_and]
  have e6' : qs.length ≤ 64 := by omega
  clear e4 e6
  go_enter Tryz.func13, Tryz.ntmps13
  go_wp2_with (first | (go_at_call 35; refine (degree_within_c _ _ _ _).mono ?_; rintro e w1 ⟨rfl, rfl⟩) | (go_at_call 38; refine (ratio_Check_c _ _ _).mono ?_; rintro e w2 ⟨rfl, hb1⟩; have hc1 := (bcell hb1).1; have hz1 : w.heap.size < w2.heap.size := by have := hb1.size; simp at this; omega))
  clear e1 e2 e3 e4' e5
  have hB := bthen (below1 _ _) hb1
  clear hc1 hb1
  go_loopw [5, 48] (fun _ i wr => ∃ k : Nat, k ≤ qs.length ∧ i = .int .i64 k ∧ Hid (((qs.take k).all reqOk) = true) ∧ Below w.heap.size w wr) (fun _ i _ => qs.length - (intOf i).toNat)
  case atStart => exact ⟨0, Nat.zero_le _, rfl, rfl, hB⟩
  case round =>
    obtain ⟨k, hk, rfl, hall, hBr⟩ := hrel
    by_cases hlt : k < qs.length
    · obtain ⟨x, b, off, B, c', hx, rfl, hb, hc', hr, f0, f1, f2, f3, f4, f5⟩ := kReq_get (h.below hBr) hlt
      have hck := fun W (hW : Below wr.heap.size wr W) => degree_Check1_c W x B c' (hr.below hW)
      have hst : Hid ((qs.take (k + 1)).all reqOk = reqOk x) := by show _ = _; rw [take_snoc_get hx.out, List.all_append, hall.out]; simp
      clear h
      cases hq : reqOk x with
      | true =>
        rw [hq] at hst hck
        go_wp2_with (go_at_call 34; refine (hck _ (below1 _ _)).mono ?_; rintro e w3 ⟨rfl, hb3⟩)
        go_roundw
        case rel => exact ⟨k + 1, hlt, by go_num, hst, bthen hBr (bthen (below1 _ _) hb3)⟩
        case measure => simp [intOf]; omega
      | false =>
        rw [hq] at hst hck
        have hno : qs.all reqOk = false := by
          have h2 := hst.out
          rw [← Bool.not_eq_true, List.all_eq_true] at h2 ⊢
          exact fun h3 => h2 fun y hy => h3 y (List.mem_of_mem_take hy)
        have hE : Hid (prgE ⟨nm, num, uses, earn, mn, md, qs⟩ = 190) := by show _ = _; rw [hE.out, hno]; rfl
        clear hno
        go_wp2_with (go_at_call 34; refine (hck _ (below1 _ _)).mono ?_; rintro e w3 ⟨rfl, hb3⟩)
        go_ret
        exact ⟨ret_congr (by rw [hE.out]; rfl), bthen hBr (bthen (below1 _ _) hb3)⟩
    · have h2 := hall.out
      rw [List.take_of_length_le (by omega)] at h2
      have hE : Hid (prgE ⟨nm, num, uses, earn, mn, md, qs⟩ = 0) := by show _ = _; rw [hE.out, h2]; rfl
      clear h2
      go_wp2
      go_ret
      exact ⟨ret_congr (by rw [hE.out]; rfl), hBr⟩
end Go.Proofs.YtaiibchadlaifaaGreatDoor

namespace Go.Proofs.YtaiibchadlaifaaGreatDoor
open Go.RowKit

set_option maxRecDepth 100000 in
set_option maxHeartbeats 4000000 in
theorem ref19_fits_c (w : World) (q : Req) (a : Att) (A : Option Addr) (c : Nat) (h : Rd kI w A q.fr) :
    Calls Tryz.prog 41 #[.agg #[.string q.nm, .int .i64 q.cr, .int .i64 q.gr, .bool q.home, .slice q.nA q.nn q.nc, .slice A q.fr.length c], .agg #[.int .i64 a.c, .int .i64 a.t, .int .i64 a.g, .int .i64 a.cam, .int .i64 a.cr]] w
      fun e w' => e = .returned (.bool (eligB q a)) ∧ Below w.heap.size w w' := by
  have hl := h.len
  obtain ⟨qnm, qcr, qgr, qh, qA, qn, qc, qf⟩ := q
  obtain ⟨ac, at_, ag, am, acr⟩ := a
  unfold eligB
  dsimp only at *
  by_cases e1 : ag < qgr
  · go_enter Tryz.func41, Tryz.ntmps41
    go_wp2_with fail
    go_ret
    exact ⟨ret_congr (by simp; omega), below2 _ _ _⟩
  have e1 : qgr ≤ ag := by omega
  cases qh with
  | true =>
    cases e2 : (am != 0) with
    | true =>
      go_enter Tryz.func41, Tryz.ntmps41
      go_wp2_with fail
      go_ret
      exact ⟨ret_congr (by simp at e2; simp [e2]), below2 _ _ _⟩
    | false =>
      go_enter Tryz.func41, Tryz.ntmps41
      go_wp2_with fail
      have e2 : am = 0 := by simpa using e2
      subst e2
      have hB := below2 w (.cells #[.string qnm, .int .i64 qcr, .int .i64 qgr, .bool true, .slice qA qn qc, .slice A qf.length c] 75) (.cells #[.int .i64 ac, .int .i64 at_, .int .i64 ag, .int .i64 0, .int .i64 acr] 28)
      have hb0 := blk_cell (alloc2_blk0 w (.cells #[.string qnm, .int .i64 qcr, .int .i64 qgr, .bool true, .slice qA qn qc, .slice A qf.length c] 75) (.cells #[.int .i64 ac, .int .i64 at_, .int .i64 ag, .int .i64 0, .int .i64 acr] 28))
      have hb1 := blk_cell (alloc2_blk1 w (.cells #[.string qnm, .int .i64 qcr, .int .i64 qgr, .bool true, .slice qA qn qc, .slice A qf.length c] 75) (.cells #[.int .i64 ac, .int .i64 at_, .int .i64 ag, .int .i64 0, .int .i64 acr] 28))
      have hz := alloc2_size w (.cells #[.string qnm, .int .i64 qcr, .int .i64 qgr, .bool true, .slice qA qn qc, .slice A qf.length c] 75) (.cells #[.int .i64 ac, .int .i64 at_, .int .i64 ag, .int .i64 0, .int .i64 acr] 28)
      generalize (w.alloc _).alloc _ = W2 at *
      have h2 : Rd kI W2 A qf := h.below hB
      go_loopw [5] (fun i wr => ∃ k : Nat, k ≤ qf.length ∧ i = .int .i64 k ∧ Hid (hasI (qf.take k) ac = false) ∧ Below W2.heap.size W2 wr) (fun i _ => qf.length - (intOf i).toNat)
      case atStart => exact ⟨0, Nat.zero_le _, rfl, rfl, Below.refl _ _⟩
      case round =>
        obtain ⟨k, hk, rfl, hno, hBr⟩ := hrel
        have hb0r : ∀ j : Nat, wr.cell? ⟨w.heap.size, j, none⟩ = _ := fun j => (hBr.cell (p := ⟨w.heap.size, j, none⟩) (by simp; omega)).trans (hb0 j)
        have hb1r : ∀ j : Nat, wr.cell? ⟨w.heap.size + 1, j, none⟩ = _ := fun j => (hBr.cell (p := ⟨w.heap.size + 1, j, none⟩) (by simp; omega)).trans (hb1 j)
        clear hb0 hb1
        by_cases hlt : k < qf.length
        · obtain ⟨x, b, off, hx, rfl, hb, f0⟩ := kI_get (h2.below hBr) hlt
          have ht : Hid (hasI (qf.take (k + 1)) ac = (ac == x)) := by
            show _ = _
            rw [take_snoc_get hx.out, hasI_snoc, hno.out]; simp
          cases hxa : (x == ac) with
          | true =>
            have hall : Hid (hasI qf ac = true) := by
              have h2 : hasI (qf.take (k + 1)) ac = true := by rw [ht.out]; simp at hxa; simp [hxa]
              show _ = _
              unfold hasI at *; rw [List.any_eq_true] at *; obtain ⟨y, hy, h3⟩ := h2; exact ⟨y, List.mem_of_mem_take hy, h3⟩
            go_wp2
            go_quiet (fail)
            go_wp2
            go_ret
            exact ⟨ret_congr (by rw [hall.out]; simp [*]), bthen hB (hBr.trans (below_drewN2 _ _ _))⟩
          | false =>
            have ht : Hid (hasI (qf.take (k + 1)) ac = false) := by show _ = _; rw [ht.out]; simp at hxa ⊢; omega
            go_wp2
            go_quiet (fail)
            go_wp2
            go_roundw
            case rel => exact ⟨k + 1, hlt, by go_num, ht, hBr.trans (below_drewN2 _ _ _)⟩
            case measure => simp [intOf]; omega
        · have hall : Hid (hasI qf ac = false) := by have := hno.out; rw [List.take_of_length_le (by omega)] at this; exact this
          go_wp2
          go_ret
          exact ⟨ret_congr (by rw [hall.out]; simp), bthen hB hBr⟩
  | false =>
      go_enter Tryz.func41, Tryz.ntmps41
      go_wp2_with fail
      have hB := below2 w (.cells #[.string qnm, .int .i64 qcr, .int .i64 qgr, .bool false, .slice qA qn qc, .slice A qf.length c] 75) (.cells #[.int .i64 ac, .int .i64 at_, .int .i64 ag, .int .i64 am, .int .i64 acr] 28)
      have hb0 := blk_cell (alloc2_blk0 w (.cells #[.string qnm, .int .i64 qcr, .int .i64 qgr, .bool false, .slice qA qn qc, .slice A qf.length c] 75) (.cells #[.int .i64 ac, .int .i64 at_, .int .i64 ag, .int .i64 am, .int .i64 acr] 28))
      have hb1 := blk_cell (alloc2_blk1 w (.cells #[.string qnm, .int .i64 qcr, .int .i64 qgr, .bool false, .slice qA qn qc, .slice A qf.length c] 75) (.cells #[.int .i64 ac, .int .i64 at_, .int .i64 ag, .int .i64 am, .int .i64 acr] 28))
      have hz := alloc2_size w (.cells #[.string qnm, .int .i64 qcr, .int .i64 qgr, .bool false, .slice qA qn qc, .slice A qf.length c] 75) (.cells #[.int .i64 ac, .int .i64 at_, .int .i64 ag, .int .i64 am, .int .i64 acr] 28)
      generalize (w.alloc _).alloc _ = W2 at *
      have h2 : Rd kI W2 A qf := h.below hB
      go_loopw [5] (fun i wr => ∃ k : Nat, k ≤ qf.length ∧ i = .int .i64 k ∧ Hid (hasI (qf.take k) ac = false) ∧ Below W2.heap.size W2 wr) (fun i _ => qf.length - (intOf i).toNat)
      case atStart => exact ⟨0, Nat.zero_le _, rfl, rfl, Below.refl _ _⟩
      case round =>
        obtain ⟨k, hk, rfl, hno, hBr⟩ := hrel
        have hb0r : ∀ j : Nat, wr.cell? ⟨w.heap.size, j, none⟩ = _ := fun j => (hBr.cell (p := ⟨w.heap.size, j, none⟩) (by simp; omega)).trans (hb0 j)
        have hb1r : ∀ j : Nat, wr.cell? ⟨w.heap.size + 1, j, none⟩ = _ := fun j => (hBr.cell (p := ⟨w.heap.size + 1, j, none⟩) (by simp; omega)).trans (hb1 j)
        clear hb0 hb1
        by_cases hlt : k < qf.length
        · obtain ⟨x, b, off, hx, rfl, hb, f0⟩ := kI_get (h2.below hBr) hlt
          have ht : Hid (hasI (qf.take (k + 1)) ac = (ac == x)) := by
            show _ = _
            rw [take_snoc_get hx.out, hasI_snoc, hno.out]; simp
          cases hxa : (x == ac) with
          | true =>
            have hall : Hid (hasI qf ac = true) := by
              have h2 : hasI (qf.take (k + 1)) ac = true := by rw [ht.out]; simp at hxa; simp [hxa]
              show _ = _
              unfold hasI at *; rw [List.any_eq_true] at *; obtain ⟨y, hy, h3⟩ := h2; exact ⟨y, List.mem_of_mem_take hy, h3⟩
            go_wp2
            go_quiet (fail)
            go_wp2
            go_ret
            exact ⟨ret_congr (by rw [hall.out]; simp [*]), bthen hB (hBr.trans (below_drewN2 _ _ _))⟩
          | false =>
            have ht : Hid (hasI (qf.take (k + 1)) ac = false) := by show _ = _; rw [ht.out]; simp at hxa ⊢; omega
            go_wp2
            go_quiet (fail)
            go_wp2
            go_roundw
            case rel => exact ⟨k + 1, hlt, by go_num, ht, hBr.trans (below_drewN2 _ _ _)⟩
            case measure => simp [intOf]; omega
        · have hall : Hid (hasI qf ac = false) := by have := hno.out; rw [List.take_of_length_le (by omega)] at this; exact this
          go_wp2
          go_ret
          exact ⟨ret_congr (by rw [hall.out]; simp), bthen hB hBr⟩


set_option maxRecDepth 100000 in
set_option maxHeartbeats 4000000 in
theorem ref19_Eligible_c (w : World) (p : Prg) (a : Att) (A : Option Addr) (c : Nat) (h : Rd kReq w A p.reqs) (hn : p.reqs.length ≤ 1000) :
    Calls Tryz.prog 17 #[.agg #[.string p.nm, .int .i64 p.num, .int .i64 p.uses, .int .i64 p.earn, .int .i64 p.mn, .int .i64 p.md, .slice A p.reqs.length c], .agg #[.int .i64 a.c, .int .i64 a.t, .int .i64 a.g, .int .i64 a.cam, .int .i64 a.cr]] w
      fun e w' => ∃ v, e = .returned v ∧ OwnF encI 1 3 w.heap.size w' v (eligL p.reqs a) ∧ Below w.heap.size w w' := by
  obtain ⟨pnm, pnum, puses, pearn, pmn, pmd, qs⟩ := p
  dsimp only at *
  go_enter Tryz.func17, Tryz.ntmps17
  go_wp2_with fail
  have hB := below2 w (.cells #[.string pnm, .int .i64 pnum, .int .i64 puses, .int .i64 pearn, .int .i64 pmn, .int .i64 pmd, .slice A qs.length c] 26) (.cells #[.int .i64 a.c, .int .i64 a.t, .int .i64 a.g, .int .i64 a.cam, .int .i64 a.cr] 28)
  have hb0 := blk_cell (alloc2_blk0 w (.cells #[.string pnm, .int .i64 pnum, .int .i64 puses, .int .i64 pearn, .int .i64 pmn, .int .i64 pmd, .slice A qs.length c] 26) (.cells #[.int .i64 a.c, .int .i64 a.t, .int .i64 a.g, .int .i64 a.cam, .int .i64 a.cr] 28))
  have hb1 := blk_cell (alloc2_blk1 w (.cells #[.string pnm, .int .i64 pnum, .int .i64 puses, .int .i64 pearn, .int .i64 pmn, .int .i64 pmd, .slice A qs.length c] 26) (.cells #[.int .i64 a.c, .int .i64 a.t, .int .i64 a.g, .int .i64 a.cam, .int .i64 a.cr] 28))
  have hz := alloc2_size w (.cells #[.string pnm, .int .i64 pnum, .int .i64 puses, .int .i64 pearn, .int .i64 pmn, .int .i64 pmd, .slice A qs.length c] 26) (.cells #[.int .i64 a.c, .int .i64 a.t, .int .i64 a.g, .int .i64 a.cam, .int .i64 a.cr] 28)
  generalize (w.alloc _).alloc _ = W2 at *
  have hO0 := OwnF.made encI (sz := 1) 3 (Nat.le_refl W2.heap.size)
  have h2 : Rd kReq W2 A qs := h.below hB
  go_loopw [5, 6] (fun v i wr => ∃ k : Nat, k ≤ qs.length ∧ i = .int .i64 k ∧ OwnF encI 1 3 W2.heap.size wr v (upTo (eligF qs a) k) ∧ Below W2.heap.size W2 wr) (fun _ i _ => qs.length - (intOf i).toNat)
  case atStart => exact ⟨0, Nat.zero_le _, rfl, by rw [← hz]; exact hO0, below1 _ _⟩
  case round =>
    obtain ⟨k, hk, rfl, hown, hBr⟩ := hrel
    have hb0r : ∀ j : Nat, wr.cell? ⟨w.heap.size, j, none⟩ = _ := fun j => (hBr.cell (p := ⟨w.heap.size, j, none⟩) (by simp; omega)).trans (hb0 j)
    have hb1r : ∀ j : Nat, wr.cell? ⟨w.heap.size + 1, j, none⟩ = _ := fun j => (hBr.cell (p := ⟨w.heap.size + 1, j, none⟩) (by simp; omega)).trans (hb1 j)
    have hsz : w.heap.size + 1 < wr.heap.size := by have := hBr.size; omega
    by_cases hlt : k < qs.length
    · obtain ⟨x, b, off, B, c', hx, rfl, hb, hc', hr, f0, f1, f2, f3, f4, f5⟩ := kReq_get (h2.below hBr) hlt
      have hel : ∀ W, Below wr.heap.size wr W → Calls Tryz.prog 41 #[.agg #[.string x.nm, .int .i64 x.cr, .int .i64 x.gr, .bool x.home, .slice x.nA x.nn x.nc, .slice B x.fr.length c'], .agg #[.int .i64 a.c, .int .i64 a.t, .int .i64 a.g, .int .i64 a.cam, .int .i64 a.cr]] W
        fun e w' => e = .returned (.bool (eligB x a)) ∧ Below W.heap.size W w' := fun W hW => ref19_fits_c W x a B c' (hr.below hW)
      have hst : Hid (upTo (eligF qs a) (k + 1) = upTo (eligF qs a) k ++ (if eligB x a then [(k : Int)] else [])) := by show _ = _; rw [upTo, eligF_at hx.out]
      have hle := eligTo_le qs a k
      clear hb0 hb1 h h2 hB hO0
      go_wp2_with fail
      go_still_tail 6, (by kernel_rfl)
      change wpList _ _ _ _ _ wr.drew
      have hBd : Below wr.heap.size wr wr.drew := (Below.refl _ _).drew
      go_wp2_with (first
        | (go_at_call 41; refine (hel _ hBd).mono ?_; rintro e w1 ⟨rfl, hb1⟩
           have hB1 : Below W2.heap.size W2 w1 := hBr.trans ((bthen hBd hb1).mono hBr.size)
           have hO1 : OwnF encI 1 3 W2.heap.size w1 u5 (upTo (eligF qs a) k) := hown.below (bthen hBd hb1))
        | (at_builtin; refine wpList_append1 rfl _ _ 34 rfl 3 (.int .i64 0) 8 Tryz.underlying34 Tryz.info3 rfl (by decide) encI_len encI_one W2.heap.size u5 (upTo (eligF qs a) k) rfl (hO1.alloc _) _ (k : Int) rfl ?c2 ?c3 (by decide) ?c4 ?_; rotate_left 3; intro v' w3 hown' hsz3 hB3 _ _))
      case c2 => intro j u hj; simpa [encI] using hj
      case c3 => omega
      case c4 => have := hB1.size; simp; omega
      · have hy : eligB x a = true := by assumption
        rw [if_pos hy] at hst
        exact ⟨⟨k + 1, hlt, by go_num, by rw [hst.out]; exact hown', hB3 _ _ (Nat.le_refl _) (hB1.alloc hB1.size _)⟩, by simp [intOf]; omega⟩
      · have hy : eligB x a = false := by assumption
        rw [if_neg (by simp [hy])] at hst
        exact ⟨⟨k + 1, hlt, by go_num, by rw [hst.out, List.append_nil]; exact hO1, hB1⟩, by simp [intOf]; omega⟩
    · go_wp2
      go_ret
      obtain rfl : k = qs.length := by omega
      exact ⟨u5, rfl, (hown.lower (by omega)), hB.trans (hBr.mono (by omega))⟩
end Go.Proofs.YtaiibchadlaifaaGreatDoor

namespace Go.Proofs.YtaiibchadlaifaaGreatDoor
open Go.RowKit
theorem edge_stood : Tryz.prog.stoodInHeld 85 = false := by kernel_rfl
theorem edge_eql (W : World) (a0 a1 a2 b0 b1 b2 : Int) : (binOp .eql 85 (.agg #[.int .i64 a0, .int .i64 a1, .int .i64 a2]) (.agg #[.int .i64 b0, .int .i64 b1, .int .i64 b2])).run Tryz.prog W = .ok (.bool ((a0 == b0 && a1 == b1 && a2 == b2))) W := by
  have h := run_equalIn_struct (P := Tryz.prog) W 9999 85 #[.int .i64 a0, .int .i64 a1, .int .i64 a2] #[.int .i64 b0, .int .i64 b1, .int .i64 b2] (by simp [go_sem]) edge_stood
  simp only [binOp]
  simp [Op.equal, Op.maxDepth, h, go_sem]
  by_cases h0 : a0 = b0 <;> by_cases h1 : a1 = b1 <;> by_cases h2 : a2 = b2 <;> simp [h0, h1, h2]
theorem edge_neq (W : World) (a0 a1 a2 b0 b1 b2 : Int) : (binOp .neq 85 (.agg #[.int .i64 a0, .int .i64 a1, .int .i64 a2]) (.agg #[.int .i64 b0, .int .i64 b1, .int .i64 b2])).run Tryz.prog W = .ok (.bool (!(a0 == b0 && a1 == b1 && a2 == b2))) W := by
  have h := run_equalIn_struct (P := Tryz.prog) W 9999 85 #[.int .i64 a0, .int .i64 a1, .int .i64 a2] #[.int .i64 b0, .int .i64 b1, .int .i64 b2] (by simp [go_sem]) edge_stood
  simp only [binOp]
  simp [Op.equal, Op.maxDepth, h, go_sem]
  by_cases h0 : a0 = b0 <;> by_cases h1 : a1 = b1 <;> by_cases h2 : a2 = b2 <;> simp [h0, h1, h2]

set_option maxRecDepth 100000 in
set_option maxHeartbeats 2000000 in
theorem law19_same_c (w : World) (A B : Option Addr) (ca cb : Nat) (xs ys : List Int) (ha : Rd kI w A xs) (hb : Rd kI w B ys) :
    Calls Tryz.prog 15 #[.slice A xs.length ca, .slice B ys.length cb] w fun e w' => (∃ b : Bool, e = .returned (.bool b) ∧ (b = true ↔ xs = ys)) ∧ Below w.heap.size w w' := by
  have hla := ha.len
  have hlb := hb.len
  by_cases hne : xs.length = ys.length
  · have hne' : ((xs.length : Int) != (ys.length : Int)) = false := by simp [hne]
    go_enter Tryz.func15, Tryz.ntmps15
    go_wp2
    clear hne'
    go_loopw [5] (fun i wr => ∃ k : Nat, k ≤ xs.length ∧ i = .int .i64 k ∧ Hid (xs.take k = ys.take k) ∧ Below w.heap.size w wr) (fun i _ => xs.length - (intOf i).toNat)
    case atStart => exact ⟨0, Nat.zero_le _, rfl, rfl, Below.refl _ _⟩
    case round =>
      obtain ⟨k, hk, rfl, hno, hB⟩ := hrel
      by_cases hlt : k < xs.length
      · have hlt2 : k < ys.length := by omega
        obtain ⟨x, b, off, hx, rfl, hbk, f0⟩ := kI_get (ha.below hB) hlt
        obtain ⟨y, b2, off2, hy, rfl, hbk2, g0⟩ := kI_get (hb.below hB) hlt2
        have HN : Hid (xs.length = ys.length) := hne
        clear hne ha hb
        by_cases hxy : x = y
        · have hs : Hid (xs.take (k + 1) = ys.take (k + 1)) := by show _ = _; rw [take_snoc_get hx.out, take_snoc_get hy.out, hno.out, hxy]
          subst hxy
          go_wp2
          go_quiet (fail)
          go_wp2
          go_roundw
          case rel => exact ⟨k + 1, hlt, by go_num, hs, hB.trans (below_drewN2 _ _ _)⟩
          case measure => simp [intOf]; omega
        · have hs : Hid (xs ≠ ys) := by
            intro e; have h1 := hx.out; have h2 := hy.out; rw [e, h2] at h1; exact hxy (Option.some.inj h1).symm
          have hn : (x != y) = true := by simpa using hxy
          clear hxy
          go_wp2
          go_quiet (fail)
          go_wp2
          all_goals (go_ret; exact ⟨⟨_, rfl, by simp; exact hs.out⟩, hB.trans (below_drewN2 _ _ _)⟩)
      · have hs : Hid (xs = ys) := by have := hno.out; rwa [List.take_of_length_le (by omega), List.take_of_length_le (by omega)] at this
        clear hne
        go_wp2
        go_ret
        exact ⟨⟨_, rfl, by simp; exact hs.out⟩, hB⟩
  · have hne' : ((xs.length : Int) != (ys.length : Int)) = true := by simp; omega
    have hs : Hid (xs ≠ ys) := fun e => hne (by rw [e])
    clear hne
    go_enter Tryz.func15, Tryz.ntmps15
    go_wp2
    go_ret
    exact ⟨⟨_, rfl, by simp; exact hs.out⟩, Below.refl _ _⟩

set_option maxRecDepth 100000 in
set_option maxHeartbeats 2000000 in
theorem ref19_SameCut_c (w : World) (A B : Option Addr) (ca cb : Nat) (xs ys : List Bool) (ha : Rd kB w A xs) (hb : Rd kB w B ys) :
    Calls Tryz.prog 23 #[.slice A xs.length ca, .slice B ys.length cb] w fun e w' => (∃ b : Bool, e = .returned (.bool b) ∧ (b = true ↔ xs = ys)) ∧ Below w.heap.size w w' := by
  have hla := ha.len
  have hlb := hb.len
  by_cases hne : xs.length = ys.length
  · have hne' : ((xs.length : Int) != (ys.length : Int)) = false := by simp [hne]
    go_enter Tryz.func23, Tryz.ntmps23
    go_wp2
    clear hne'
    go_loopw [5] (fun i wr => ∃ k : Nat, k ≤ xs.length ∧ i = .int .i64 k ∧ Hid (xs.take k = ys.take k) ∧ Below w.heap.size w wr) (fun i _ => xs.length - (intOf i).toNat)
    case atStart => exact ⟨0, Nat.zero_le _, rfl, rfl, Below.refl _ _⟩
    case round =>
      obtain ⟨k, hk, rfl, hno, hB⟩ := hrel
      by_cases hlt : k < xs.length
      · have hlt2 : k < ys.length := by omega
        obtain ⟨x, b, off, hx, rfl, hbk, f0⟩ := kB_get (ha.below hB) hlt
        obtain ⟨y, b2, off2, hy, rfl, hbk2, g0⟩ := kB_get (hb.below hB) hlt2
        have HN : Hid (xs.length = ys.length) := hne
        clear hne ha hb
        by_cases hxy : x = y
        · have hs : Hid (xs.take (k + 1) = ys.take (k + 1)) := by show _ = _; rw [take_snoc_get hx.out, take_snoc_get hy.out, hno.out, hxy]
          subst hxy
          go_wp2
          go_quiet (fail)
          go_wp2
          go_roundw
          case rel => exact ⟨k + 1, hlt, by go_num, hs, hB.trans (below_drewN2 _ _ _)⟩
          case measure => simp [intOf]; omega
        · have hs : Hid (xs ≠ ys) := by
            intro e; have h1 := hx.out; have h2 := hy.out; rw [e, h2] at h1; exact hxy (Option.some.inj h1).symm
          cases x <;> cases y <;> first | (exact absurd rfl hxy) | skip
          all_goals clear hxy
          all_goals (go_wp2; go_quiet (fail); go_wp2; go_ret; exact ⟨⟨_, rfl, by simp; exact hs.out⟩, hB.trans (below_drewN2 _ _ _)⟩)
      · have hs : Hid (xs = ys) := by have := hno.out; rwa [List.take_of_length_le (by omega), List.take_of_length_le (by omega)] at this
        clear hne
        go_wp2
        go_ret
        exact ⟨⟨_, rfl, by simp; exact hs.out⟩, hB⟩
  · have hne' : ((xs.length : Int) != (ys.length : Int)) = true := by simp; omega
    have hs : Hid (xs ≠ ys) := fun e => hne (by rw [e])
    clear hne
    go_enter Tryz.func23, Tryz.ntmps23
    go_wp2
    go_ret
    exact ⟨⟨_, rfl, by simp; exact hs.out⟩, Below.refl _ _⟩

set_option maxRecDepth 100000 in
set_option maxHeartbeats 2000000 in
theorem ref19_SameEdges_c (w : World) (A B : Option Addr) (ca cb : Nat) (xs ys : List Edge) (ha : Rd kEdge w A xs) (hb : Rd kEdge w B ys) :
    Calls Tryz.prog 20 #[.slice A xs.length ca, .slice B ys.length cb] w fun e w' => (∃ b : Bool, e = .returned (.bool b) ∧ (b = true ↔ xs = ys)) ∧ Below w.heap.size w w' := by
  have hla := ha.len
  have hlb := hb.len
  by_cases hne : xs.length = ys.length
  · have hne' : ((xs.length : Int) != (ys.length : Int)) = false := by simp [hne]
    go_enter Tryz.func20, Tryz.ntmps20
    go_wp2
    clear hne'
    go_loopw [5] (fun i wr => ∃ k : Nat, k ≤ xs.length ∧ i = .int .i64 k ∧ Hid (xs.take k = ys.take k) ∧ Below w.heap.size w wr) (fun i _ => xs.length - (intOf i).toNat)
    case atStart => exact ⟨0, Nat.zero_le _, rfl, rfl, Below.refl _ _⟩
    case round =>
      obtain ⟨k, hk, rfl, hno, hB⟩ := hrel
      by_cases hlt : k < xs.length
      · have hlt2 : k < ys.length := by omega
        obtain ⟨x, b, off, hx, rfl, hbk, f0, f1, f2⟩ := kEdge_get (ha.below hB) hlt
        obtain ⟨y, b2, off2, hy, rfl, hbk2, g0, g1, g2⟩ := kEdge_get (hb.below hB) hlt2
        have HN : Hid (xs.length = ys.length) := hne
        clear hne ha hb
        by_cases hxy : x = y
        · have hs : Hid (xs.take (k + 1) = ys.take (k + 1)) := by show _ = _; rw [take_snoc_get hx.out, take_snoc_get hy.out, hno.out, hxy]
          subst hxy
          have hE : ∀ W, _ := fun W => edge_neq W x.f x.t x.m x.f x.t x.m
          rw [show (!(x.f == x.f && x.t == x.t && x.m == x.m)) = false by simp] at hE
          go_wp2
          go_quiet (fail)
          go_wp2
          go_roundw
          case rel => exact ⟨k + 1, hlt, by go_num, hs, hB.trans (below_drewN2 _ _ _)⟩
          case measure => simp [intOf]; omega
        · have hs : Hid (xs ≠ ys) := by
            intro e; have h1 := hx.out; have h2 := hy.out; rw [e, h2] at h1; exact hxy (Option.some.inj h1).symm
          have hE : ∀ W, _ := fun W => edge_neq W x.f x.t x.m y.f y.t y.m
          have hq : (!(x.f == y.f && x.t == y.t && x.m == y.m)) = true := by
            obtain ⟨x1, x2, x3⟩ := x; obtain ⟨y1, y2, y3⟩ := y
            simp at hxy ⊢; by_cases c1 : x1 = y1 <;> by_cases c2 : x2 = y2 <;> simp [c1, c2] at hxy ⊢; exact hxy
          rw [hq] at hE
          clear hxy hq
          go_wp2
          go_quiet (fail)
          go_wp2
          all_goals (go_ret; exact ⟨⟨_, rfl, by simp; exact hs.out⟩, hB.trans (below_drewN2 _ _ _)⟩)
      · have hs : Hid (xs = ys) := by have := hno.out; rwa [List.take_of_length_le (by omega), List.take_of_length_le (by omega)] at this
        clear hne
        go_wp2
        go_ret
        exact ⟨⟨_, rfl, by simp; exact hs.out⟩, hB⟩
  · have hne' : ((xs.length : Int) != (ys.length : Int)) = true := by simp; omega
    have hs : Hid (xs ≠ ys) := fun e => hne (by rw [e])
    clear hne
    go_enter Tryz.func20, Tryz.ntmps20
    go_wp2
    go_ret
    exact ⟨⟨_, rfl, by simp; exact hs.out⟩, Below.refl _ _⟩
end Go.Proofs.YtaiibchadlaifaaGreatDoor

namespace Go.Proofs.YtaiibchadlaifaaGreatDoor
open Go.RowKit

def fewB (qs : List Req) (n : Nat) : Bool := decide (qs.length ≤ 6) && decide (n ≤ 8) && qs.all fun q => decide (q.fr.length ≤ 10)

set_option maxRecDepth 100000 in
set_option maxHeartbeats 2000000 in
theorem ref19_Few_c (w : World) (p : Prg) (A B : Option Addr) (c m cl : Nat) (h : Rd kReq w A p.reqs) (hm : m ≤ 9223372036854775807) :
    Calls Tryz.prog 12 #[.agg #[.string p.nm, .int .i64 p.num, .int .i64 p.uses, .int .i64 p.earn, .int .i64 p.mn, .int .i64 p.md, .slice A p.reqs.length c], .slice B m cl] w fun e w' => e = .returned (.bool (fewB p.reqs m)) ∧ Below w.heap.size w w' := by
  have hl := h.len
  obtain ⟨pnm, pnum, puses, pearn, pmn, pmd, qs⟩ := p
  dsimp only at *
  by_cases e1 : 6 < qs.length
  · have hE : Hid (fewB qs m = false) := by show _ = _; simp [fewB]; omega
    go_enter Tryz.func12, Tryz.ntmps12
    go_wp2
    go_ret
    exact ⟨ret_congr (by rw [hE.out]; rfl), below1 _ _⟩
  have e1 : qs.length ≤ 6 := by omega
  by_cases e2 : 8 < m
  · have hE : Hid (fewB qs m = false) := by show _ = _; simp [fewB]; omega
    go_enter Tryz.func12, Tryz.ntmps12
    go_wp2
    go_ret
    exact ⟨ret_congr (by rw [hE.out]; rfl), below1 _ _⟩
  have e2 : m ≤ 8 := by omega
  have hE : Hid (fewB qs m = qs.all fun q => decide (q.fr.length ≤ 10)) := by show _ = _; simp [fewB, e1, e2]
  go_enter Tryz.func12, Tryz.ntmps12
  go_wp2
  have hB := below1 w (.cells #[.string pnm, .int .i64 pnum, .int .i64 puses, .int .i64 pearn, .int .i64 pmn, .int .i64 pmd, .slice A qs.length c] 26)
  have hb0 := blk_cell (alloc1_blk w (.cells #[.string pnm, .int .i64 pnum, .int .i64 puses, .int .i64 pearn, .int .i64 pmn, .int .i64 pmd, .slice A qs.length c] 26))
  have hz := World.size_alloc w (.cells #[.string pnm, .int .i64 pnum, .int .i64 puses, .int .i64 pearn, .int .i64 pmn, .int .i64 pmd, .slice A qs.length c] 26)
  generalize w.alloc _ = W2 at *
  go_loopw [5] (fun i wr => ∃ k : Nat, k ≤ qs.length ∧ i = .int .i64 k ∧ Hid (((qs.take k).all fun q => decide (q.fr.length ≤ 10)) = true) ∧ Below W2.heap.size W2 wr) (fun i _ => qs.length - (intOf i).toNat)
  case atStart => exact ⟨0, Nat.zero_le _, rfl, rfl, Below.refl _ _⟩
  case round =>
    obtain ⟨k, hk, rfl, hno, hBr⟩ := hrel
    have hb0r : ∀ j : Nat, wr.cell? ⟨w.heap.size, j, none⟩ = _ := fun j => (hBr.cell (p := ⟨w.heap.size, j, none⟩) (by simp; omega)).trans (hb0 j)
    clear hb0
    by_cases hlt : k < qs.length
    · obtain ⟨x, b, off, B, c', hx, rfl, hb, hc', hr, f0, f1, f2, f3, f4, f5⟩ := kReq_get ((h.below hB).below hBr) hlt
      have hxl := hr.len
      have ht : Hid (((qs.take (k + 1)).all fun q => decide (q.fr.length ≤ 10)) = decide (x.fr.length ≤ 10)) := by show _ = _; rw [take_snoc_get hx.out, List.all_append, hno.out]; simp
      clear h
      by_cases hq : 10 < x.fr.length
      · have hE : Hid (fewB qs m = false) := by
          show _ = _
          rw [hE.out, ← Bool.not_eq_true, List.all_eq_true]
          intro h3; have := h3 x (List.mem_of_getElem? hx.out); simp at this; omega
        go_wp2
        go_ret
        exact ⟨ret_congr (by rw [hE.out]; rfl), bthen hB hBr⟩
      · have ht : Hid (((qs.take (k + 1)).all fun q => decide (q.fr.length ≤ 10)) = true) := by show _ = _; rw [ht.out]; simp; omega
        go_wp2
        go_roundw
        case rel => exact ⟨k + 1, hlt, by go_num, ht, hBr⟩
        case measure => simp [intOf]; omega
    · have hE : Hid (fewB qs m = true) := by show _ = _; have := hno.out; rw [List.take_of_length_le (by omega)] at this; rw [hE.out, this]
      go_wp2
      go_ret
      exact ⟨ret_congr (by rw [hE.out]; rfl), bthen hB hBr⟩

def totalC (qs : List Req) : Int := (qs.map fun q => q.cr).sum
theorem totalC_snoc (qs : List Req) (q : Req) : totalC (qs ++ [q]) = totalC qs + q.cr := by simp [totalC]
theorem totalC_bd (qs : List Req) (h : ∀ q, q ∈ qs → 0 ≤ q.cr ∧ q.cr ≤ 10000) : 0 ≤ totalC qs ∧ totalC qs ≤ 10000 * qs.length := by
  induction qs with
  | nil => simp [totalC]
  | cons x xs ih => have := ih (fun q hq => h q (by simp [hq])); have := h x (by simp); simp [totalC] at *; omega
def usedC (us : List Use) : Int := (us.map fun u => u.c).sum
theorem usedC_snoc (us : List Use) (u : Use) : usedC (us ++ [u]) = usedC us + u.c := by simp [usedC]
theorem usedC_bd (us : List Use) (h : ∀ u, u ∈ us → 0 ≤ u.c ∧ u.c ≤ 10000) : 0 ≤ usedC us ∧ usedC us ≤ 10000 * us.length := by
  induction us with
  | nil => simp [usedC]
  | cons x xs ih => have := ih (fun q hq => h q (by simp [hq])); have := h x (by simp); simp [usedC] at *; omega
theorem mem_take_of {α : Type} {xs : List α} {k : Nat} {P : α → Prop} (h : ∀ x, x ∈ xs → P x) : ∀ x, x ∈ xs.take k → P x := fun x hx => h x (List.mem_of_mem_take hx)

set_option maxRecDepth 100000 in
set_option maxHeartbeats 2000000 in
theorem ref19_Total_c (w : World) (p : Prg) (A : Option Addr) (c : Nat) (h : Rd kReq w A p.reqs) (hq : ∀ q, q ∈ p.reqs → 0 ≤ q.cr ∧ q.cr ≤ 10000) (hn : p.reqs.length ≤ 1000) :
    Calls Tryz.prog 29 #[.agg #[.string p.nm, .int .i64 p.num, .int .i64 p.uses, .int .i64 p.earn, .int .i64 p.mn, .int .i64 p.md, .slice A p.reqs.length c]] w fun e w' => e = .returned (.int .i64 (totalC p.reqs)) ∧ Below w.heap.size w w' := by
  have hl := h.len
  obtain ⟨pnm, pnum, puses, pearn, pmn, pmd, qs⟩ := p
  dsimp only at *
  go_enter Tryz.func29, Tryz.ntmps29
  go_wp2
  have hB := below1 w (.cells #[.string pnm, .int .i64 pnum, .int .i64 puses, .int .i64 pearn, .int .i64 pmn, .int .i64 pmd, .slice A qs.length c] 26)
  have hb0 := blk_cell (alloc1_blk w (.cells #[.string pnm, .int .i64 pnum, .int .i64 puses, .int .i64 pearn, .int .i64 pmn, .int .i64 pmd, .slice A qs.length c] 26))
  have hz := World.size_alloc w (.cells #[.string pnm, .int .i64 pnum, .int .i64 puses, .int .i64 pearn, .int .i64 pmn, .int .i64 pmd, .slice A qs.length c] 26)
  generalize w.alloc _ = W2 at *
  go_loopw [3, 4] (fun n i wr => ∃ k : Nat, k ≤ qs.length ∧ i = .int .i64 k ∧ n = .int .i64 (totalC (qs.take k)) ∧ Below W2.heap.size W2 wr) (fun _ i _ => qs.length - (intOf i).toNat)
  case atStart => exact ⟨0, Nat.zero_le _, rfl, rfl, Below.refl _ _⟩
  case round =>
    obtain ⟨k, hk, rfl, rfl, hBr⟩ := hrel
    have hb0r : ∀ j : Nat, wr.cell? ⟨w.heap.size, j, none⟩ = _ := fun j => (hBr.cell (p := ⟨w.heap.size, j, none⟩) (by simp; omega)).trans (hb0 j)
    clear hb0
    by_cases hlt : k < qs.length
    · obtain ⟨x, b, off, B, c', hx, rfl, hb, hc', hr, f0, f1, f2, f3, f4, f5⟩ := kReq_get ((h.below hB).below hBr) hlt
      obtain ⟨h1, h2⟩ := totalC_bd (qs.take k) (mem_take_of hq)
      have h3 : (qs.take k).length ≤ 1000 := by rw [List.length_take]; omega
      obtain ⟨h4, h5⟩ := hq x (List.mem_of_getElem? hx.out)
      have ht : Hid (totalC (qs.take (k + 1)) = totalC (qs.take k) + x.cr) := by show _ = _; rw [take_snoc_get hx.out, totalC_snoc]
      obtain ⟨t, htt⟩ : ∃ t, t = totalC (qs.take k) := ⟨_, rfl⟩
      rw [← htt] at h1 h2 ht ⊢
      clear h htt
      go_wp2
      first
        | (go_roundw
           case rel => exact ⟨k + 1, hlt, by go_num, by rw [ht.out], hBr⟩
           case measure => simp [intOf]; omega)
        | (go_quiet (fail)
           go_wp2
           go_roundw
           case rel => exact ⟨k + 1, hlt, by go_num, by rw [ht.out], hBr.trans (below_drewN2 _ _ _)⟩
           case measure => simp [intOf]; omega)
    · have ht : Hid (totalC (qs.take k) = totalC qs) := by show _ = _; rw [List.take_of_length_le (by omega)]
      go_wp2
      go_ret
      exact ⟨ret_congr (by rw [← ht.out]; rfl), bthen hB hBr⟩

set_option maxRecDepth 100000 in
set_option maxHeartbeats 2000000 in
theorem ref19_Assigned_c (w : World) (us : List Use) (A : Option Addr) (c : Nat) (h : Rd kUse w A us) (hq : ∀ u, u ∈ us → 0 ≤ u.c ∧ u.c ≤ 10000) (hn : us.length ≤ 1000) :
    Calls Tryz.prog 30 #[.slice A us.length c] w fun e w' => e = .returned (.int .i64 (usedC us)) ∧ Below w.heap.size w w' := by
  have hl := h.len
  go_enter Tryz.func30, Tryz.ntmps30
  go_wp2
  go_loopw [3, 4] (fun n i wr => ∃ k : Nat, k ≤ us.length ∧ i = .int .i64 k ∧ n = .int .i64 (usedC (us.take k)) ∧ Below w.heap.size w wr) (fun _ i _ => us.length - (intOf i).toNat)
  case atStart => exact ⟨0, Nat.zero_le _, rfl, rfl, Below.refl _ _⟩
  case round =>
    obtain ⟨k, hk, rfl, rfl, hBr⟩ := hrel
    by_cases hlt : k < us.length
    · obtain ⟨x, b, off, hx, rfl, hb, f0, f1, f2⟩ := kUse_get (h.below hBr) hlt
      obtain ⟨h1, h2⟩ := usedC_bd (us.take k) (mem_take_of hq)
      have h3 : (us.take k).length ≤ 1000 := by rw [List.length_take]; omega
      obtain ⟨h4, h5⟩ := hq x (List.mem_of_getElem? hx.out)
      have ht : Hid (usedC (us.take (k + 1)) = usedC (us.take k) + x.c) := by show _ = _; rw [take_snoc_get hx.out, usedC_snoc]
      obtain ⟨t, htt⟩ : ∃ t, t = usedC (us.take k) := ⟨_, rfl⟩
      rw [← htt] at h1 h2 ht ⊢
      clear h htt
      go_wp2
      first
        | (go_roundw
           case rel => exact ⟨k + 1, hlt, by go_num, by rw [ht.out], hBr⟩
           case measure => simp [intOf]; omega)
        | (go_quiet (fail)
           go_wp2
           go_roundw
           case rel => exact ⟨k + 1, hlt, by go_num, by rw [ht.out], hBr.trans (below_drewN2 _ _ _)⟩
           case measure => simp [intOf]; omega)
    · have ht : Hid (usedC (us.take k) = usedC us) := by show _ = _; rw [List.take_of_length_le (by omega)]
      go_wp2
      go_ret
      exact ⟨ret_congr (by rw [← ht.out]; rfl), hBr⟩
end Go.Proofs.YtaiibchadlaifaaGreatDoor
